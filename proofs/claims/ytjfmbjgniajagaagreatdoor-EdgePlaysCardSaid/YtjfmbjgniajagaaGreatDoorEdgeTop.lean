/- Payloads, and rows of acts (crierlaw33.Act), that came in. Package edge: a node of the call's own, with what holds of it at all times; the laws' small. Package edge: a node of the call's own, and memory that is none of its parts. EdgeZero: a node that nobody made takes nothing. The document's node (chapter 33): death, Take, New, View. The document's node (chapter 33): Take. The program's node and the document's, beside each other. The laws' do (chapter 33). Both nodes beside each other: made, seen. EdgePlays: whatever a node is told, it and the document's show the same behind each act. EdgePlays: the row of the statement round its walk. -/
import Derived.Test.YtjfmbjgniajagaaGreatDoorEdgeM
import Derived.Test.YtjfmbjgniajagaaGreatDoorErrLaid
import Derived.Test.YtjfmbjgniajagaaGreatDoorEdgeSame
import Derived.Test.YtjfmbjgniajagaaGreatDoorEdgeOps
import Derived.Test.YtjfmbjgniajagaaGreatDoorChecked
import Derived.Test.YtjfmbjgniajagaaGreatDoorBase
import Derived.Test.YtjfmbjgniajagaaGreatDoorFlat
import Derived.OpenShut
import Derived.Deep.DeepHandedRow
import Derived.ProofKit
import Derived.Below
import Derived.Deep.QuietTactic
import Derived.BigQuiet
import Derived.StillTailTactics
import Derived.Deep.LoopGhost
import Derived.Test.YtjfmbjgniajagaaGreatDoorEdgeDocB
import Derived.Deep.RegionHeld3
import Derived.Test.YtjfmbjgniajagaaGreatDoorEdgeDocView
import Derived.ShutString
import Derived.ChangeOld
import Derived.SliceStrings
import Derived.SizedLaws
namespace Go.Proofs.YtjfmbjgniajagaaGreatDoor
open Go.RowKit Go.ChangeShapes Go.WideShapes

def Pay.cells (p : Pay) : List Value := [.int .u64 p.t, .bool p.h, .int .u64 p.s, .string p.u, .string p.b, .slice p.a p.M.length p.c]
/-- What a node is told. -/
structure EAct where
  k : Int
  dev : ByteArray
  p : Pay
def EAct.cells (x : EAct) : List Value := [.int .i64 x.k, .string x.dev, .int .u64 x.p.t, .bool x.p.h, .int .u64 x.p.s, .string x.p.u, .string x.p.b, .slice x.p.a x.p.M.length x.p.c]
def PayAt (w : World) (p : Pay) : Prop := 0 ≤ p.s ∧ MetsAt w p.a p.M
/-- A row of acts: what it holds. -/
def EActs (w : World) (a : Option Addr) (len : Nat) (ms : Nat → EAct) : Prop :=
  len ≤ maxLen ∧ (0 < len → ∃ b o, a = some ⟨b, o, none⟩ ∧ b < w.heap.size ∧ ∀ i, i < len → PayAt w (ms i).p ∧ ∀ j v, (ms i).cells[j]? = some v → w.cell? ⟨b, o + i * 8 + j, none⟩ = some v)
theorem PayAt.nil' {w w' : World} {p : Pay} (h : PayAt w p) (ho : Own [] w w') : PayAt w' p := ⟨h.1, h.2.nil' ho⟩
section
variable {H : Type} {enc : TypeId × Value → H} {w : World}
theorem weights_mem_all {P : Program} {e : TypeId} : ∀ {ds : List (DataW H)} {d : DataW H}, d ∈ ds → ∀ n ∈ d.weights P e, n ∈ DataW.weightsAll P e ds
  | d0 :: ds, d, hm, n, hn => by
    simp only [DataW.weightsAll, List.mem_append]
    rcases List.mem_cons.1 hm with rfl | h
    · exact .inl hn
    · exact .inr (weights_mem_all h n hn)
/-- A field of a struct that came in. -/
theorem trod_field {P : Program} {base fuel : Nat} {spare : Nat → Bool} {held : Bool} {t : TypeId} {cs : List Value} {x : DataW H × List MemPlace} {fs : Array Field} (ht : P.underlying t = some (.struct fs)) (h : DataW.trod enc P w base spare held fuel t cs = some x)
    (hw : (x.1.weights P t).all (· ≤ reachBytes) = true) {i : Nat} {f : Field} (hf : fs[i]? = some f) :
    ∃ n y, DataW.trod enc P w base spare held n f.type ((cs.drop f.offset).take (P.cellsOf f.type)) = some y ∧ (y.1.weights P f.type).all (· ≤ reachBytes) = true := by
  obtain ⟨xs, m, _, rfl, hlen, hxs, hg⟩ := DataW.trod_struct ht h
  have hi : i < xs.length := by rw [hxs]; exact (Array.getElem?_eq_some_iff.1 hf).1
  refine ⟨m, xs[i], by rw [hg i f hf, List.getElem?_eq_getElem hi], List.all_eq_true.2 fun n hn => ?_⟩
  refine List.all_eq_true.1 hw n ?_
  simp only [DataW.weights, ht]
  exact DataW.weights_mem_each (j := i) (t := f.type) (d := xs[i].1) (by simp [hf]) (by simp [hi]) n hn
/-- A slice of rows that came in, within something else. -/
theorem open_rowsW {fuel : Nat} {α : Type} [Inhabited α] {cell : α → List Value} {good : α → Prop} {t e : TypeId} {sz bytes : Nat} {ks : List CK} (ht : Tryz.prog.underlying t = some (.slice e)) (hk : flat Tryz.prog 3 e = some ks) (hs : Tryz.prog.cellsOf e = sz) (hpos : 0 < sz) (hb : Tryz.prog.bytesOf e = bytes) (hbp : 0 < bytes)
    (hfit : ∀ cs, Fits ks cs → ∃ x : α, good x ∧ cs = cell x) {a0 : Option Addr} {len0 cap0 : Nat} {x : DataW H × List MemPlace} (h : DataW.trod enc Tryz.prog w 0 (fun _ => true) true fuel t [.slice a0 len0 cap0] = some x)
    (hw : (x.1.weights Tryz.prog t).all (· ≤ reachBytes) = true) :
    ∃ L : List α, len0 = L.length ∧ RowsAt cell sz good w a0 L := by
  rcases open_flat ht 3 sz hk hs hpos h with ⟨hcs, _⟩ | ⟨a, len, cap, m, elems, rest, ps, C, hcs, rfl, hel, hm, hlm, hx⟩
  · simp at hcs
    obtain ⟨rfl, rfl, rfl⟩ := hcs
    exact ⟨[], rfl, RowsAt.empty _ _⟩
  · simp at hcs
    obtain ⟨rfl, rfl, rfl⟩ := hcs
    have hbb : (elems.length + rest.length) * Tryz.prog.bytesOf e ≤ reachBytes := by
      have := List.all_eq_true.1 hw ((elems.length + rest.length) * Tryz.prog.bytesOf e) (by simp [DataW.weights, ht])
      simpa using this
    rw [hb] at hbb
    simp only [reachBytes] at hbb
    by_cases hl : 0 < len0
    · obtain ⟨b, o, rfl, hbl, hc⟩ := hx hl
      obtain ⟨its, hits⟩ := Deep.choose_lt (α := α) (n := len0) (p := fun i x => good x ∧ C i = cell x) (fun i hi => hfit _ (hc i hi).1)
      have hle : len0 * bytes ≤ 140737488351232 := by
        have : len0 * bytes ≤ m * bytes := Nat.mul_le_mul_right _ hlm
        rw [← hm] at this
        omega
      have hl1 : len0 ≤ len0 * bytes := Nat.le_mul_of_pos_right _ hbp
      refine ⟨(List.range len0).map its, by simp, by simp; omega, fun _ => ⟨b, o, rfl, hbl, fun i x hi => ?_⟩⟩
      have hil : i < len0 := by simpa using (List.getElem?_eq_some_iff.1 hi).1
      obtain rfl : its i = x := by simpa [hil] using hi
      exact ⟨(hits i hil).1, fun j v hv => (hc i hil).2 j v (by rw [(hits i hil).2]; exact hv)⟩
    · obtain rfl : len0 = 0 := by omega
      exact ⟨[], rfl, RowsAt.empty _ _⟩
def paylKinds : List CK := [.int .u64, .bool, .int .u64, .str, .str, .sl]
theorem payl_flat : flat Tryz.prog 3 39 = some paylKinds := by kernel_rfl
theorem pay_field : ∃ fs, Tryz.prog.underlying 39 = some (.struct fs) ∧ ∃ f, fs[5]? = some f ∧ f.type = 37 ∧ f.offset = 5 := ⟨_, Tryz.underlying39, _, rfl, rfl, rfl⟩
theorem mets_cells : Tryz.prog.cellsOf 37 = 1 := by kernel_rfl
set_option maxRecDepth 100000 in
theorem open_payload {fuel : Nat} {cs : List Value} {x : DataW H × List MemPlace} (h : DataW.trod enc Tryz.prog w 0 (fun _ => true) true fuel 39 cs = some x) (hw : (x.1.weights Tryz.prog 39).all (· ≤ reachBytes) = true) :
    ∃ p : Pay, cs = p.cells ∧ PayAt w p := by
  obtain ⟨hl, hf⟩ := flat_fits 3 payl_flat h
  obtain ⟨fs, hu, f, hf5, ht5, ho5⟩ := pay_field
  obtain ⟨n, y, hy, hyw⟩ := trod_field hu h hw hf5
  match cs, hl with
  | [v0, v1, v2, v3, v4, v5], _ =>
    obtain ⟨n0, rfl, _⟩ := hf 0 _ _ rfl rfl
    obtain ⟨b1, rfl⟩ := hf 1 _ _ rfl rfl
    obtain ⟨n2, rfl, w2⟩ := hf 2 _ _ rfl rfl
    obtain ⟨s3, rfl, _⟩ := hf 3 _ _ rfl rfl
    obtain ⟨s4, rfl, _⟩ := hf 4 _ _ rfl rfl
    obtain ⟨x5, y5, z5, rfl⟩ := hf 5 _ _ rfl rfl
    rw [ho5, ht5, mets_cells] at hy
    rw [ht5] at hyw
    obtain ⟨L, rfl, hL⟩ := open_rowsW Tryz.underlying37 met_flat met_cells (by omega) met_bytes (by omega) (fun _ => fits_met) hy hyw
    obtain ⟨a1, _⟩ := bounds_u64 w2
    exact ⟨⟨n0, b1, n2, s3, s4, x5, L, z5⟩, rfl, a1, hL⟩
def eactKinds : List CK := [.int .i64, .str, .int .u64, .bool, .int .u64, .str, .str, .sl]
theorem eact_flat : flat Tryz.prog 4 50 = some eactKinds := by kernel_rfl
theorem eact_cells : Tryz.prog.cellsOf 50 = 8 := by kernel_rfl
theorem payl_cells : Tryz.prog.cellsOf 39 = 6 := by kernel_rfl
theorem eact_field : ∃ fs, Tryz.prog.underlying 50 = some (.struct fs) ∧ ∃ f, fs[2]? = some f ∧ f.type = 39 ∧ f.offset = 2 := ⟨_, Tryz.underlying50, _, rfl, rfl, rfl⟩
set_option maxRecDepth 100000 in
theorem open_eact {fuel : Nat} {cs : List Value} {x : DataW H × List MemPlace} (h : DataW.trod enc Tryz.prog w 0 (fun _ => true) true fuel 50 cs = some x) (hw : (x.1.weights Tryz.prog 50).all (· ≤ reachBytes) = true) :
    ∃ p : EAct, cs = p.cells ∧ PayAt w p.p := by
  obtain ⟨hl, hf⟩ := flat_fits 4 eact_flat h
  obtain ⟨fs, hu, f, hf2, ht2, ho2⟩ := eact_field
  obtain ⟨n, y, hy, hyw⟩ := trod_field hu h hw hf2
  match cs, hl with
  | [v0, v1, v2, v3, v4, v5, v6, v7], _ =>
    obtain ⟨n0, rfl, _⟩ := hf 0 _ _ rfl rfl
    obtain ⟨s1, rfl, _⟩ := hf 1 _ _ rfl rfl
    rw [ho2, ht2, payl_cells] at hy
    rw [ht2] at hyw
    obtain ⟨p, hp, hP⟩ := open_payload hy hyw
    refine ⟨⟨n0, s1, p⟩, ?_, hP⟩
    simp only [List.drop_succ_cons, List.drop_zero, List.take_succ_cons, List.take_zero, Pay.cells] at hp
    unfold EAct.cells
    rw [hp]
instance : Inhabited EAct := ⟨⟨0, ByteArray.empty, ⟨0, false, 0, ByteArray.empty, ByteArray.empty, none, [], 0⟩⟩⟩
set_option maxRecDepth 100000 in
theorem open_eacts {fuel : Nat} {a0 : Option Addr} {len0 cap0 : Nat} {x : DataW H × List MemPlace} (h : DataW.trod enc Tryz.prog w 0 (fun _ => true) true fuel 48 (Value.cells (.slice a0 len0 cap0)).toList = some x)
    {ts : List TypeId} {ds : List (DataW H)} (hsz : (DataW.weightsEach Tryz.prog ts ds).all (· ≤ reachBytes) = true) {j : Nat} (ht : ts[j]? = some 48) (hd : ds[j]? = some x.1) : ∃ ms, EActs w a0 len0 ms := by
  have hw : (x.1.weights Tryz.prog 48).all (· ≤ reachBytes) = true := List.all_eq_true.2 fun n hn => List.all_eq_true.1 hsz n (DataW.weights_mem_each ht hd n hn)
  rcases Deep.open_slice Tryz.underlying48 h with ⟨hcs, _⟩ | ⟨a, len, cap, m, n, D, Pl, hcs, hb, hl, hm, hmm, rfl, hx⟩
  · simp [Value.cells] at hcs
    obtain ⟨rfl, rfl, rfl⟩ := hcs
    exact ⟨fun _ => default, by unfold maxLen; omega, fun h => by omega⟩
  · simp [Value.cells] at hcs
    obtain ⟨rfl, rfl, rfl⟩ := hcs
    rw [eact_cells] at hx
    have hlm : len0 ≤ m := by rw [hmm]; split <;> omega
    obtain ⟨C, hC⟩ := Deep.choose_lt (α := EAct) (n := len0) (p := fun i c => w.cells? 0 (a.add (i * 8)) 8 = some c.cells ∧ PayAt w c.p) (fun i hi => by
      obtain ⟨cs', h1, h2⟩ := hx i (by omega)
      obtain ⟨p, rfl, hp⟩ := open_eact h2 (List.all_eq_true.2 fun n hn => List.all_eq_true.1 hw n (by
        simp only [DataW.weights, Tryz.underlying48, List.mem_cons, List.mem_append]
        exact .inr (.inl (weights_mem_all (List.mem_map.2 ⟨i, List.mem_range.2 hi, rfl⟩) n hn))))
      exact ⟨p, h1, hp⟩)
    refine ⟨C, by omega, fun hpl => ?_⟩
    obtain ⟨b, o, sp⟩ := a
    have hs := cells_spot (hC 0 (by omega)).1 (by omega)
    have hsp : sp = none := by simpa [Addr.add] using hs.1
    subst hsp
    refine ⟨b, o, rfl, by simpa [Addr.add] using hs.2, fun i hi => ⟨(hC i hi).2, fun j v hv => ?_⟩⟩
    refine cells_get (hC i hi).1 ?_ hv
    unfold Addr.add
    by_cases hi0 : i * 8 = 0
    · simp [hi0]
    · simp [hi0]
end
end Go.Proofs.YtjfmbjgniajagaaGreatDoor

set_option linter.unusedSimpArgs false
namespace Go.Proofs.YtjfmbjgniajagaaGreatDoor
open Go.RowKit

theorem eal_any (n : Nat) (g nm : ByteArray) (L : EW) (s : EN) (w : World) (h : EdgeAt w n g nm L s) : Calls Tryz.prog 15 #[.pointer (some ⟨n, 0, none⟩)] w fun e w' => e = .returned (.int .i64 s.al.length) ∧ w = w' := by
  obtain ⟨⟨k2, k3, k4, k5, k6, k7, k8⟩, _⟩ := edge_cells h (S := []) (by simp) _ (Own.refl _ _)
  have cN := Lib.hid (enone_any n ⟨L.rb, 0, none⟩ w k4)
  have cL := Lib.hid (len_any L.tb L.tm s.al w h.tab)
  clear h k2 k3 k5 k6 k8
  go_enter Tryz.func15, Tryz.ntmps15
  go_wp2_with (first
    | (go_at_call 24; (with_reducible refine cN.out.mono ?_); rintro e w1 ⟨rfl, rfl⟩)
    | (go_at_call 29; (with_reducible refine cL.out.mono ?_); rintro e w1 ⟨rfl, rfl⟩))
  go_ret
  exact ⟨rfl, rfl⟩
theorem eon_any (n : Nat) (g nm : ByteArray) (L : EW) (s : EN) (w : World) (h : EdgeAt w n g nm L s) : Calls Tryz.prog 17 #[.pointer (some ⟨n, 0, none⟩)] w fun e w' => e = .returned (.bool s.online) ∧ w = w' := by
  obtain ⟨⟨k2, k3, k4, k5, k6, k7, k8⟩, _⟩ := edge_cells h (S := []) (by simp) _ (Own.refl _ _)
  have cN := Lib.hid (enone_any n ⟨L.rb, 0, none⟩ w k4)
  clear h k3 k5 k6 k7 k8
  go_enter Tryz.func17, Tryz.ntmps17
  go_wp2_with (go_at_call 24; (with_reducible refine cN.out.mono ?_); rintro e w1 ⟨rfl, rfl⟩)
  go_ret
  exact ⟨by simp, rfl⟩
theorem EH.al {w0 wr : World} {n : Nat} {g nm : ByteArray} {s : EN} (h : EH w0 wr n g nm s) : Calls Tryz.prog 15 #[.pointer (some ⟨n, 0, none⟩)] wr fun e w' => e = .returned (.int .i64 s.al.length) ∧ wr = w' := by
  obtain ⟨L, h1, h2, h3⟩ := h
  exact eal_any n g nm L s wr h1
theorem EH.on {w0 wr : World} {n : Nat} {g nm : ByteArray} {s : EN} (h : EH w0 wr n g nm s) : Calls Tryz.prog 17 #[.pointer (some ⟨n, 0, none⟩)] wr fun e w' => e = .returned (.bool s.online) ∧ wr = w' := by
  obtain ⟨L, h1, h2, h3⟩ := h
  exact eon_any n g nm L s wr h1
theorem EH.few {w0 wr : World} {n : Nat} {g nm : ByteArray} {s : EN} (h : EH w0 wr n g nm s) : (s.items.length ≤ 32 ∧ s.al.length ≤ 64 ∧ s.dev.length ≤ 4) ∧ ∀ x ∈ s.dev, x.items.length ≤ 32 := by
  obtain ⟨L, h1, h2, h3⟩ := h
  refine ⟨h1.few, fun x hx => ?_⟩
  obtain ⟨i, hi⟩ := List.getElem?_of_mem hx
  have hl : i < L.ds.length := by rw [← h1.len]; exact (List.getElem?_eq_some_iff.1 hi).1
  exact (h1.devs i _ x (List.getElem?_eq_getElem hl) hi).2.2.2
theorem EH.viewAt {w0 wr : World} {n : Nat} {g nm : ByteArray} {s : EN} (h : EH w0 wr n g nm s) : Calls Tryz.prog 12 #[.pointer (some ⟨n, 0, none⟩)] wr fun e w' => ∃ a cap va vc V, e = .returned (.agg #[.string g, .string nm, .bool s.online, .int .i64 (bdV s), .int .i64 (nextV s), .bool s.pending, .slice a s.items.length cap, .slice va s.dev.length vc]) ∧
    VAt w' s.items s.dev a va V ∧ Own [] wr w' ∧ EH w0 w' n g nm s := by
  have hf := h.few
  refine h.view.mono ?_
  rintro e w' ⟨a, cap, va, vn, vc, V, rfl, ⟨k1, k2, k3⟩, k4, k5⟩
  obtain ⟨q1, rfl⟩ := vat_of k1 k2 k3 hf.1.1 hf.1.2.2 hf.2
  exact ⟨a, cap, va, vc, V, rfl, q1, k4, k5⟩
/-- A node of the call's own. -/
def EI (w0 wr : World) (n : Nat) (g nm : ByteArray) (s : EN) : Prop := EH w0 wr n g nm s ∧ EInv s
theorem EI.nil' {w0 wr w' : World} {n : Nat} {g nm : ByteArray} {s : EN} (h : EI w0 wr n g nm s) (ho : Own [] wr w') : EI w0 w' n g nm s := ⟨h.1.nil' ho, h.2⟩
theorem EI.take {w0 wr : World} {n : Nat} {g nm : ByteArray} {s : EN} (k : Int) (dn : ByteArray) (p : Pay) (h : EI w0 wr n g nm s) (hP : PayAt wr p) (hE : Errs w0) :
    Calls Tryz.prog 10 #[.pointer (some ⟨n, 0, none⟩), .int .i64 k, .string dn, .agg #[.int .u64 p.t, .bool p.h, .int .u64 p.s, .string p.u, .string p.b, .slice p.a p.M.length p.c]] wr fun e w' => e = .returned (.int .i64 (eTake s k dn p).1) ∧ EI w0 w' n g nm (eTake s k dn p).2 := by
  obtain ⟨⟨L, h1, h2, h3⟩, h4⟩ := h
  refine (take_e n g nm L s k dn p wr h1 h4.1 hP.2 hP.1 (hE.nil h3)).mono fun e w' hp => ?_
  obtain ⟨q1, q2⟩ := EH.post h2 h3 hp
  exact ⟨q1, q2, eTake_inv h4 k dn p⟩
theorem EI.new (g nm : ByteArray) (w : World) (hg : g.toList.isEmpty = false) (hn : nm.toList.isEmpty = false) :
    Calls Tryz.prog 9 #[.string g, .string nm] w fun e w' => ∃ n, e = .returned (.tuple #[.pointer (some ⟨n, 0, none⟩), .int .i64 0]) ∧ EI w w' n g nm ⟨false, 0, 0, false, false, [], [], []⟩ :=
  (EH.new g nm w hg hn).mono fun _ _ ⟨n, h1, h2⟩ => ⟨n, h1, h2, einv_new⟩
theorem small_any (p : Pay) (w : World) : Calls Tryz.prog 14 #[.agg #[.int .u64 p.t, .bool p.h, .int .u64 p.s, .string p.u, .string p.b, .slice p.a p.M.length p.c]] w fun e w' => e = .returned (.bool (decide (p.M.length ≤ 40))) ∧ Own [] w w' := by
  obtain ⟨p0, p1, p2, p3, p4, p5⟩ := pbox_cells w p (S := []) (by simp) _ (Own.refl _ _)
  have hO := Lib.hid (pbox_own w p)
  simp only [pbox] at hO p0 p1 p2 p3 p4 p5
  go_enter Tryz.func14, Tryz.ntmps14
  go_wp2_with fail
  go_ret
  exact ⟨by simp; omega, hO.out⟩
/-- An act's cells. -/
def EActAt (W : World) (b q : Nat) (x : EAct) : Prop := W.cell? ⟨b, q, none⟩ = some (.int .i64 x.k) ∧ W.cell? ⟨b, q + 1, none⟩ = some (.string x.dev) ∧
  W.cell? ⟨b, q + 2, none⟩ = some (.int .u64 x.p.t) ∧ W.cell? ⟨b, q + 3, none⟩ = some (.bool x.p.h) ∧ W.cell? ⟨b, q + 4, none⟩ = some (.int .u64 x.p.s) ∧ W.cell? ⟨b, q + 5, none⟩ = some (.string x.p.u) ∧
  W.cell? ⟨b, q + 6, none⟩ = some (.string x.p.b) ∧ W.cell? ⟨b, q + 7, none⟩ = some (.slice x.p.a x.p.M.length x.p.c)
theorem EActAt.nil' {w W : World} {b q : Nat} {x : EAct} (h : EActAt w b q x) (ho : Own [] w W) : EActAt W b q x := by
  obtain ⟨h0, h1, h2, h3, h4, h5, h6, h7⟩ := h
  have hc : ∀ j v, w.cell? ⟨b, j, none⟩ = some v → W.cell? ⟨b, j, none⟩ = some v := fun j v hv => (ho.cell (p := ⟨b, j, none⟩) (block_lt_of_cell hv) (by simp)).trans hv
  exact ⟨hc _ _ h0, hc _ _ h1, hc _ _ h2, hc _ _ h3, hc _ _ h4, hc _ _ h5, hc _ _ h6, hc _ _ h7⟩
theorem eacts_at {w : World} {a : Option Addr} {len : Nat} {ms : Nat → EAct} (h : EActs w a len ms) {W : World} (ho : Own [] w W) {i : Nat} (hi : i < len) :
    ∃ b o, a = some ⟨b, o, none⟩ ∧ PayAt W (ms i).p ∧ EActAt W b (o + i * 8) (ms i) := by
  obtain ⟨b, o, rfl, hb, hx⟩ := h.2 (by omega)
  obtain ⟨h1, h2⟩ := hx i hi
  have hc : ∀ j v, (ms i).cells[j]? = some v → W.cell? ⟨b, o + i * 8 + j, none⟩ = some v := fun j v hv => (ho.cell (p := ⟨b, o + i * 8 + j, none⟩) hb (by simp)).trans (h2 j v hv)
  exact ⟨b, o, rfl, h1.nil' ho, hc 0 _ rfl, hc 1 _ rfl, hc 2 _ rfl, hc 3 _ rfl, hc 4 _ rfl, hc 5 _ rfl, hc 6 _ rfl, hc 7 _ rfl⟩
theorem eacts_all {w : World} {a : Option Addr} {len : Nat} {ms : Nat → EAct} (h : EActs w a len ms) {i : Nat} (hi : i < len) :
    ∃ b o, a = some ⟨b, o, none⟩ ∧ ∀ W, Own [] w W → PayAt W (ms i).p ∧ EActAt W b (o + i * 8) (ms i) := by
  obtain ⟨b, o, e, _⟩ := h.2 (by omega)
  refine ⟨b, o, e, fun W ho => ?_⟩
  obtain ⟨b2, o2, e2, h1, h2⟩ := eacts_at h ho hi
  rw [e] at e2
  cases e2
  exact ⟨h1, h2⟩
end Go.Proofs.YtjfmbjgniajagaaGreatDoor

set_option linter.unusedSimpArgs false
namespace Go.Proofs.YtjfmbjgniajagaaGreatDoor
open Go.RowKit

/-- Between B and C nothing has changed. -/
def Gap (B C : Nat) (w w' : World) : Prop := ∃ S, Own S w w' ∧ ∀ x ∈ S, x < B ∨ C ≤ x
theorem Gap.nil {B C : Nat} {w w' : World} (h : Own [] w w') : Gap B C w w' := ⟨[], h, by simp⟩
theorem Gap.heap {B C : Nat} {w w' : World} (h : Gap B C w w') {b : Nat} {o : Obj} (hb : w.heap[b]? = some o) (h1 : B ≤ b) (h2 : b < C) : w'.heap[b]? = some o := by
  obtain ⟨S, hO, hS⟩ := h
  exact hO.heap hb (fun hx => by rcases hS b hx with h3 | h3 <;> omega)
theorem Gap.mono' {B C C' : Nat} {w w' : World} (h : Gap B C' w w') (hC : C ≤ C') : Gap B C w w' := by
  obtain ⟨S, hO, hS⟩ := h
  exact ⟨S, hO, fun x hx => by rcases hS x hx with h1 | h1 <;> omega⟩
theorem Gap.trans {B C : Nat} {w w1 w2 : World} (h : Gap B C w w1) (k : Gap B C w1 w2) : Gap B C w w2 := by
  obtain ⟨S, hO, hS⟩ := h
  obtain ⟨S', hO', hS'⟩ := k
  refine ⟨S ++ S', (hO.mono fun x hx => List.mem_append_left _ hx).trans (hO'.mono fun x hx => List.mem_append_right _ hx), fun x hx => ?_⟩
  rcases List.mem_append.1 hx with h1 | h1
  · exact hS x h1
  · exact hS' x h1
theorem Gap.set {B C : Nat} {w : World} {b : Nat} (h : C ≤ b) (o : Nat) (v : Value) : Gap B C w (w.setCell ⟨b, o, none⟩ v) := ⟨[b], (Own.refl _ _).setCell (by simp) _, fun x hx => by simp at hx; exact .inr (hx ▸ h)⟩
/-- A node: none of its parts lies between B and C. -/
def EX (w0 wr : World) (n : Nat) (g nm : ByteArray) (s : EN) (B C : Nat) : Prop :=
  ∃ L, EdgeAt wr n g nm L s ∧ (∀ x ∈ L.feet n, w0.heap.size ≤ x ∧ (x < B ∨ C ≤ x)) ∧ Own [] w0 wr ∧ EInv s ∧ C ≤ wr.heap.size ∧ w0.heap.size ≤ B
theorem EI.gap {w0 wr w' : World} {n : Nat} {g nm : ByteArray} {s : EN} (h : EI w0 wr n g nm s) (ho : Own [] wr w') : EX w0 w' n g nm s wr.heap.size w'.heap.size := by
  obtain ⟨⟨L, h1, h2, h3⟩, h4⟩ := h
  exact ⟨L, h1.nil' ho, fun x hx => ⟨h2 x hx, .inl (h1.lt x hx)⟩, h3.trans ho, h4, Nat.le_refl _, h3.size⟩
theorem EX.ei {w0 wr : World} {n : Nat} {g nm : ByteArray} {s : EN} {B C : Nat} (h : EX w0 wr n g nm s B C) : EI w0 wr n g nm s := by
  obtain ⟨L, h1, h2, h3, h4, _⟩ := h
  exact ⟨⟨L, h1, fun x hx => (h2 x hx).1, h3⟩, h4⟩
theorem EX.nil' {w0 wr w' : World} {n : Nat} {g nm : ByteArray} {s : EN} {B C : Nat} (h : EX w0 wr n g nm s B C) (ho : Own [] wr w') : EX w0 w' n g nm s B C := by
  obtain ⟨L, h1, h2, h3, h4, h5, h6⟩ := h
  exact ⟨L, h1.nil' ho, h2, h3.trans ho, h4, Nat.le_trans h5 ho.size, h6⟩
theorem EX.set {w0 wr : World} {n : Nat} {g nm : ByteArray} {s : EN} {B C : Nat} (h : EX w0 wr n g nm s B C) {b : Nat} (h1 : B ≤ b) (h2 : b < C) (o : Nat) (v : Value) : EX w0 (wr.setCell ⟨b, o, none⟩ v) n g nm s B C := by
  obtain ⟨L, k1, k2, k3, k4, k5, k6⟩ := h
  have hO : Own [b] wr (wr.setCell ⟨b, o, none⟩ v) := (Own.refl _ _).setCell (by simp) _
  refine ⟨L, k1.own hO (fun x hx => by have := (k2 x hx).2; simp; omega), k2, k3.trans' hO (fun x hx => .inr (by simp at hx; omega)), k4, Nat.le_trans k5 hO.size, k6⟩
theorem EX.take {w0 wr : World} {n : Nat} {g nm : ByteArray} {s : EN} {B C : Nat} (k : Int) (dn : ByteArray) (p : Pay) (h : EX w0 wr n g nm s B C) (hP : PayAt wr p) (hE : Errs w0) :
    Calls Tryz.prog 10 #[.pointer (some ⟨n, 0, none⟩), .int .i64 k, .string dn, .agg #[.int .u64 p.t, .bool p.h, .int .u64 p.s, .string p.u, .string p.b, .slice p.a p.M.length p.c]] wr fun e w' => e = .returned (.int .i64 (eTake s k dn p).1) ∧ EX w0 w' n g nm (eTake s k dn p).2 B C ∧ Gap B C wr w' := by
  obtain ⟨L, h1, h2, h3, h4, h5, h6⟩ := h
  refine (take_e n g nm L s k dn p wr h1 h4.1 hP.2 hP.1 (hE.nil h3)).mono ?_
  rintro e w' ⟨rfl, L', k1, k2, k3⟩
  refine ⟨rfl, ⟨L', k1, fun x hx => ?_, h3.trans' k2 (fun x hx => .inr (h2 x hx).1), eTake_inv h4 k dn p, Nat.le_trans h5 k2.size, h6⟩, _, k2, fun x hx => (h2 x hx).2⟩
  rcases k3 x hx with h7 | h7
  · exact h2 x h7
  · exact ⟨Nat.le_trans h3.size h7, .inr (Nat.le_trans h5 h7)⟩
/-- A view that was made behind B lies so. -/
def ViewB (B : Nat) (w : World) (its : List Itm) (dev : List Dev) (a : Option Addr) (cap : Nat) (va : Option Addr) (vc : Nat) (V : List DV) : Prop :=
  OutRow B w a cap its ∧ Sl 56 vEnc 3 B w (.slice va dev.length vc) V ∧ DVs B w V dev
theorem ViewB.gap {B C : Nat} {w w' : World} {its : List Itm} {dev : List Dev} {a : Option Addr} {cap : Nat} {va : Option Addr} {vc : Nat} {V : List DV} (h : ViewB B w its dev a cap va vc V) (hg : Gap B C w w') (hC : w.heap.size ≤ C) : ViewB B w' its dev a cap va vc V := by
  obtain ⟨S, hO, hS⟩ := hg
  obtain ⟨h1, h2, h3⟩ := h
  have hno : ∀ b, B ≤ b → b < w.heap.size → b ∉ S := fun b q1 q2 hx => by rcases hS b hx with h4 | h4 <;> omega
  have hrow : ∀ {a : Option Addr} {cap : Nat} {l : List Itm}, OutRow B w a cap l → OutRow B w' a cap l := fun hR => hR.own' hO (fun b hb => by have := fresh_ge hR b hb; exact hno b this.1 this.2)
  exact ⟨hrow h1, h2.own hO (fun b hb => by have := h2.block hb; exact hno b this.1 this.2), h3.1, fun i v x hv hx => by
    obtain ⟨q1, q2, q3, q4⟩ := h3.2 i v x hv hx
    exact ⟨q1, q2, q3, hrow q4⟩⟩
theorem ViewB.at_ {B : Nat} {w : World} {s : EN} {a : Option Addr} {cap : Nat} {va : Option Addr} {vc : Nat} {V : List DV} (h : ViewB B w s.items s.dev a cap va vc V) (hf : (s.items.length ≤ 32 ∧ s.al.length ≤ 64 ∧ s.dev.length ≤ 4) ∧ ∀ x ∈ s.dev, x.items.length ≤ 32) : VAt w s.items s.dev a va V :=
  (vat_of h.1 h.2.1 h.2.2 hf.1.1 hf.1.2.2 hf.2).1
theorem EI.viewB {w0 wr : World} {n : Nat} {g nm : ByteArray} {s : EN} (h : EI w0 wr n g nm s) : Calls Tryz.prog 12 #[.pointer (some ⟨n, 0, none⟩)] wr fun e w' => ∃ a cap va vc V, e = .returned (.agg #[.string g, .string nm, .bool s.online, .int .i64 (bdV s), .int .i64 (nextV s), .bool s.pending, .slice a s.items.length cap, .slice va s.dev.length vc]) ∧
    ViewB wr.heap.size w' s.items s.dev a cap va vc V ∧ Own [] wr w' := by
  have hf := h.1.few
  refine h.1.view.mono ?_
  rintro e w' ⟨a, cap, va, vn, vc, V, rfl, ⟨k1, k2, k3⟩, k4, k5⟩
  obtain ⟨q1, rfl⟩ := vat_of k1 k2 k3 hf.1.1 hf.1.2.2 hf.2
  exact ⟨a, cap, va, vc, V, rfl, ⟨k1, k2, k3⟩, k4⟩
set_option maxRecDepth 100000 in
theorem open_eactv {H : Type} {enc : TypeId × Value → H} {w : World} {r : Reach} {b0 : Nat} {fuel : Nat} {v : Value} {x : DataW H × List MemPlace} (hv : Value.okWide Tryz.prog w r b0 50 v)
    (h : DataW.trod enc Tryz.prog w 0 (fun _ => true) true fuel 50 (Value.cells v).toList = some x) {ts : List TypeId} {ds : List (DataW H)} (hsz : (DataW.weightsEach Tryz.prog ts ds).all (· ≤ reachBytes) = true) {j : Nat} (ht : ts[j]? = some 50) (hd : ds[j]? = some x.1) :
    ∃ p : EAct, v = .agg #[.int .i64 p.k, .string p.dev, .int .u64 p.p.t, .bool p.p.h, .int .u64 p.p.s, .string p.p.u, .string p.p.b, .slice p.p.a p.p.M.length p.p.c] ∧ PayAt w p.p := by
  have hw : (x.1.weights Tryz.prog 50).all (· ≤ reachBytes) = true := List.all_eq_true.2 fun n hn => List.all_eq_true.1 hsz n (DataW.weights_mem_each ht hd n hn)
  obtain ⟨cs, rfl, _⟩ := Go.WideShapes.okWide_struct Tryz.underlying50 hv
  obtain ⟨p, hp, hP⟩ := open_eact h hw
  refine ⟨p, ?_, hP⟩
  have : cs = p.cells.toArray := by
    apply Array.ext'
    simpa [Value.cells] using hp
  rw [this]
  rfl
set_option maxRecDepth 100000 in
theorem open_payv {H : Type} {enc : TypeId × Value → H} {w : World} {r : Reach} {b0 : Nat} {fuel : Nat} {v : Value} {x : DataW H × List MemPlace} (hv : Value.okWide Tryz.prog w r b0 39 v)
    (h : DataW.trod enc Tryz.prog w 0 (fun _ => true) true fuel 39 (Value.cells v).toList = some x) {ts : List TypeId} {ds : List (DataW H)} (hsz : (DataW.weightsEach Tryz.prog ts ds).all (· ≤ reachBytes) = true) {j : Nat} (ht : ts[j]? = some 39) (hd : ds[j]? = some x.1) :
    ∃ p : Pay, v = .agg #[.int .u64 p.t, .bool p.h, .int .u64 p.s, .string p.u, .string p.b, .slice p.a p.M.length p.c] ∧ PayAt w p := by
  have hw : (x.1.weights Tryz.prog 39).all (· ≤ reachBytes) = true := List.all_eq_true.2 fun n hn => List.all_eq_true.1 hsz n (DataW.weights_mem_each ht hd n hn)
  obtain ⟨cs, rfl, _⟩ := Go.WideShapes.okWide_struct Tryz.underlying39 hv
  obtain ⟨p, hp, hP⟩ := open_payload h hw
  refine ⟨p, ?_, hP⟩
  have : cs = p.cells.toArray := by
    apply Array.ext'
    simpa [Value.cells] using hp
  rw [this]
  rfl
end Go.Proofs.YtjfmbjgniajagaaGreatDoor

namespace Go.Proofs.YtjfmbjgniajagaaGreatDoor
open Go.RowKit Go.ChangeShapes Go.WideShapes

/-- A payload as it comes in. -/
def payVal (t : Int) (h : Bool) (s : Int) (u b : ByteArray) (m : Option Addr × Nat × Nat) : Value := .agg #[.int .u64 t, .bool h, .int .u64 s, .string u, .string b, .slice m.1 m.2.1 m.2.2]
def payKinds : List CK := [.int .u64, .bool, .int .u64, .str, .str, .sl]
theorem pay_flat : flat Tryz.prog 3 39 = some payKinds := by kernel_rfl
set_option maxRecDepth 100000 in
theorem open_pay {H : Type} {enc : TypeId × Value → H} {w : World} {r : Reach} {b0 : Nat} {fuel : Nat} {v : Value} {x : DataW H × List MemPlace} (hv : Value.okWide Tryz.prog w r b0 39 v)
    (h : DataW.trod enc Tryz.prog w 0 (fun _ => true) true fuel 39 (Value.cells v).toList = some x) : ∃ a : (Int × Bool × Int × ByteArray × ByteArray × (Option Addr × Nat × Nat)), v = payVal a.1 a.2.1 a.2.2.1 a.2.2.2.1 a.2.2.2.2.1 a.2.2.2.2.2 := by
  obtain ⟨cs, rfl, _⟩ := okWide_struct Tryz.underlying39 hv
  have hf := flat_fits 3 pay_flat h
  obtain ⟨hl, hf⟩ := hf
  simp [Value.cells] at hl hf
  obtain ⟨l, hcs⟩ : ∃ l : List Value, cs = l.toArray := ⟨cs.toList, by simp⟩
  subst hcs
  match l, hl with
  | [v0, v1, v2, v3, v4, v5], _ =>
    obtain ⟨n0, rfl, _⟩ := hf 0 _ _ rfl rfl
    obtain ⟨b1, rfl⟩ := hf 1 _ _ rfl rfl
    obtain ⟨n2, rfl, _⟩ := hf 2 _ _ rfl rfl
    obtain ⟨s3, rfl, _⟩ := hf 3 _ _ rfl rfl
    obtain ⟨s4, rfl, _⟩ := hf 4 _ _ rfl rfl
    obtain ⟨x, y, z, rfl⟩ := hf 5 _ _ rfl rfl
    exact ⟨(n0, b1, n2, s3, s4, (x, y, z)), rfl⟩

set_option maxRecDepth 100000 in
set_option maxHeartbeats 4000000 in
theorem awake_any (w : World) : Calls Tryz.prog 13 #[] w fun e w' => e = .returned (.bool true) ∧ Own [] w w' := by
  have hmm := @run_makeMap Tryz.prog
  go_enter Tryz.func13, Tryz.ntmps13
  go_wp2_with go_in
  go_ret
  refine ⟨rfl, ?_⟩
  repeat (first | exact Own.refl _ _ | (refine Own.setCell ?_ (by simp; omega) _) | refine Own.alloc ?_ _ | refine Own.drew ?_)

/-- A view of nothing. -/
def zeroView : Value := .agg #[.string ⟨#[]⟩, .string ⟨#[]⟩, .bool false, .int .i64 0, .int .i64 0, .bool false, .slice none 0 0, .slice none 0 0]
set_option maxRecDepth 100000 in
set_option maxHeartbeats 4000000 in
theorem view_nil (w : World) : Calls Tryz.prog 12 #[.pointer none] w fun e w' => e = .returned zeroView ∧ Own [] w w' := by
  go_enter Tryz.func12, Tryz.ntmps12
  go_wp2_with go_in
  refine bodyPost_ret (v := zeroView) (by simp [results, Tryz.results12, go_sem, zeroView]) rfl ⟨rfl, ?_⟩
  repeat (first | exact Own.refl _ _ | (refine Own.setCell ?_ (by simp; try omega) _) | refine Own.alloc ?_ _ | refine Own.drew ?_)
set_option maxRecDepth 100000 in
set_option maxHeartbeats 4000000 in
theorem view_zero (z : Nat) (w : World) (h : w.cell? ⟨z, 4, none⟩ = some (.pointer none)) : Calls Tryz.prog 12 #[.pointer (some ⟨z, 0, none⟩)] w fun e w' => e = .returned zeroView ∧ Own [] w w' := by
  have hz := block_lt_of_cell h
  have hK : ∀ o, (w.alloc o).cell? ⟨z, 4, none⟩ = some (.pointer none) := fun o => (World.cell?_alloc_lt _ _ _ hz).trans h
  go_enter Tryz.func12, Tryz.ntmps12
  go_wp2_with go_in
  refine bodyPost_ret (v := zeroView) (by simp [results, Tryz.results12, go_sem, zeroView]) rfl ⟨rfl, ?_⟩
  repeat (first | exact Own.refl _ _ | (refine Own.setCell ?_ (by simp; try omega) _) | refine Own.alloc ?_ _ | refine Own.drew ?_)
set_option maxRecDepth 100000 in
set_option maxHeartbeats 4000000 in
theorem same_nil (w : World) : Calls Tryz.prog 30 #[.slice none 0 0, .slice none 0 0] w fun e w' => e = .returned (.bool true) ∧ w = w' := by
  go_enter Tryz.func30, Tryz.ntmps30
  go_wp2_with fail
  go_loopg [5] 1 (fun g s5 wr => g = 1 ∧ s5 = .int .i64 0 ∧ wr = w)
  case atStart => exact ⟨rfl, rfl, rfl⟩
  case round =>
    obtain ⟨rfl, rfl, rfl⟩ := hrel
    go_wp2_with fail
    go_ret
    exact ⟨rfl, rfl⟩
set_option maxRecDepth 100000 in
set_option maxHeartbeats 4000000 in
theorem same_zero (w : World) : Calls Tryz.prog 16 #[zeroView, zeroView] w fun e w' => e = .returned (.bool true) ∧ Own [] w w' := by
  have S := Lib.hid (fun W => same_nil W)
  unfold zeroView
  go_enter Tryz.func16, Tryz.ntmps16
  go_wp2_with (go_at_call 30; refine (S.out _).mono ?_; rintro e w' ⟨rfl, rfl⟩)
  go_loopg [5] 1 (fun g s5 wr => g = 1 ∧ s5 = .int .i64 0 ∧ wr = (w.alloc (.cells #[.string ⟨#[]⟩, .string ⟨#[]⟩, .bool false, .int .i64 0, .int .i64 0, .bool false, .slice none 0 0, .slice none 0 0] 45)).alloc (.cells #[.string ⟨#[]⟩, .string ⟨#[]⟩, .bool false, .int .i64 0, .int .i64 0, .bool false, .slice none 0 0, .slice none 0 0] 45))
  case atStart => exact ⟨rfl, rfl, rfl⟩
  case round =>
    obtain ⟨rfl, rfl, rfl⟩ := hrel
    go_wp2_with fail
    go_ret
    exact ⟨rfl, ((Own.refl _ _).alloc _).alloc _⟩

set_option maxRecDepth 100000 in
set_option maxHeartbeats 4000000 in
theorem edgeZero_walk (k : Int) (p : Int × Bool × Int × ByteArray × ByteArray × (Option Addr × Nat × Nat)) (w : World) (_hw : (Lit.int .i64 k).wf = true) (_ht : True) :
    Calls Tryz.prog 8 #[.int .i64 k, payVal p.1 p.2.1 p.2.2.1 p.2.2.2.1 p.2.2.2.2.1 p.2.2.2.2.2] w fun e w' => e = .returned (.bool true) ∧ Below w.heap.size w w' := by
  obtain ⟨t, h, s, u, b, m⟩ := p
  simp only [payVal]
  have AW := Lib.hid (fun W => awake_any W)
  go_enter Tryz.func8, Tryz.ntmps8
  have VN := (fun W => view_nil W)
  have SZ := (fun W => same_zero W)
  have VZ := (fun z W h => view_zero z W h)
  simp only [zeroView] at VN SZ VZ
  replace VN := Lib.hid VN
  replace SZ := Lib.hid SZ
  replace VZ := Lib.hid VZ
  obtain ⟨W0, hW0⟩ : ∃ W0, W0 = (w.alloc (.cells #[.int .u64 t, .bool h, .int .u64 s, .string u, .string b, .slice m.1 m.2.1 m.2.2] 39)).alloc (.cells #[.string ⟨#[]⟩, .string ⟨#[]⟩, .bool false, .int .i64 0, .pointer none, .bool false, .slice none 0 0, .pointer none, .slice none 0 0] 75) := ⟨_, rfl⟩
  have hzK : ∀ W', Own [] W0 W' → W'.cell? ⟨w.heap.size + 1, 4, none⟩ = some (.pointer none) ∧ Below w.heap.size w W' := fun W' ho => by
    subst hW0
    refine ⟨(ho.cell (p := ⟨w.heap.size + 1, 4, none⟩) (by simp) (by simp)).trans (by simp), ((((Own.refl [] w).alloc _).alloc _).trans ho).below (Nat.le_refl _) (by simp)⟩
  replace hzK := Lib.hid hzK
  have hst2 : ∀ X W1 W3 W2, X = W0 → Own [] ((X.alloc W1).alloc W3) W2 → Own [] W0 W2 := by
    rintro X W1 W3 W2 rfl ho
    exact (((Own.refl _ _).alloc _).alloc _).trans ho
  replace hst2 := Lib.hid hst2
  replace hW0 := Lib.hid hW0
  go_wp2_with (first
    | (go_at_call 12; ((with_reducible refine (VN.out _).mono ?_); rintro e w3 ⟨rfl, hO3⟩; replace hO3 := hst2.out _ _ _ _ hW0.out.symm hO3; replace hO3 := Lib.hid hO3))
    | (go_at_call 16; ((with_reducible refine (SZ.out w3).mono ?_); rintro e w4 ⟨rfl, hO4⟩; replace hO4 := hO3.out.trans hO4; have hz4 := (hzK.out _ hO4).1; replace hO4 := Lib.hid hO4))
    | (go_at_call 12; ((with_reducible refine (VZ.out _ w4 hz4).mono ?_); rintro e w5 ⟨rfl, hO5⟩; replace hO5 := hO4.out.trans hO5; replace hO5 := Lib.hid hO5))
    | (go_at_call 16; ((with_reducible refine (SZ.out w5).mono ?_); rintro e w6 ⟨rfl, hO6⟩; replace hO6 := hO5.out.trans hO6; have hz6 := (hzK.out _ hO6).1; replace hO6 := Lib.hid hO6))
    | (go_at_call 13; ((with_reducible refine (AW.out w6).mono ?_); rintro e w7 ⟨rfl, hO7⟩; replace hO7 := hO6.out.trans hO7; replace hO7 := Lib.hid hO7))
    | go_in)
  go_ret
  exact ⟨rfl, (hzK.out _ hO7.out).2⟩
end Go.Proofs.YtjfmbjgniajagaaGreatDoor

set_option linter.unusedSimpArgs false
set_option linter.unusedVariables false
namespace Go.Proofs.YtjfmbjgniajagaaGreatDoor
open Go.RowKit

theorem ynew_any (g nm : ByteArray) (w : World) (hg : g.toList.isEmpty = false) (hn : nm.toList.isEmpty = false) :
    Calls Tryz.prog 18 #[.string g, .string nm] w fun e w' => ∃ n, e = .returned (.tuple #[.pointer (some ⟨n, 0, none⟩), .int .i64 0]) ∧ (∃ Y, YAt w' n g nm Y ⟨false, 0, 0, false, false, [], [], []⟩ ∧ (∀ x ∈ Y.feet n, w.heap.size ≤ x) ∧ (∀ x ∈ Y.held, w.heap.size ≤ x)) ∧ Own [] w w' := by
  have h1 := heap_alloc_new (w.alloc (.cells #[.slice none 0 0] 65)) (.cells #[.string g, .string nm, .bool false, .int .i64 0, .int .i64 0, .bool false, .bool false, .slice none 0 0, .pointer (some ⟨w.heap.size, 0, none⟩), .slice none 0 0] 69)
  rw [show (w.alloc (.cells #[.slice none 0 0] 65)).heap.size = w.heap.size + 1 by simp] at h1
  have hT : RTab ((w.alloc (.cells #[.slice none 0 0] 65)).alloc (.cells #[.string g, .string nm, .bool false, .int .i64 0, .int .i64 0, .bool false, .bool false, .slice none 0 0, .pointer (some ⟨w.heap.size, 0, none⟩), .slice none 0 0] 69)) w.heap.size (.slice none 0 0) [] :=
    ⟨((Own.refl [] _).alloc _).heap (heap_alloc_new w _) (by simp), ⟨by simp [rowOf], .inl ⟨rfl, rfl⟩⟩, by simp [Value.ownBlock]⟩
  have hY : YAt ((w.alloc (.cells #[.slice none 0 0] 65)).alloc (.cells #[.string g, .string nm, .bool false, .int .i64 0, .int .i64 0, .bool false, .bool false, .slice none 0 0, .pointer (some ⟨w.heap.size, 0, none⟩), .slice none 0 0] 69)) (w.heap.size + 1) g nm ⟨w.heap.size, .slice none 0 0, none, 0, .slice none 0 0, []⟩ ⟨false, 0, 0, false, false, [], [], []⟩ :=
    ⟨h1, hT, RowsAt.empty _ _, Sl.nil _ _ _, rfl, by simp, ⟨by simp [YW.feet, Value.ownBlock], by simp [YW.held, Value.ownBlock, blkOf]⟩, by simp [YW.held, Value.ownBlock, blkOf], by simp⟩
  have hg2 : (g.toList == []) = false := by cases hq : g.toList with | nil => rw [hq] at hg; cases hg | cons => rfl
  have hn2 : (nm.toList == []) = false := by cases hq : nm.toList with | nil => rw [hq] at hn; cases hn | cons => rfl
  have hO := Lib.hid (((Own.refl [] w).alloc (.cells #[.slice none 0 0] 65)).alloc (.cells #[.string g, .string nm, .bool false, .int .i64 0, .int .i64 0, .bool false, .bool false, .slice none 0 0, .pointer (some ⟨w.heap.size, 0, none⟩), .slice none 0 0] 69))
  replace hY := Lib.hid hY
  clear h1 hT
  go_enter Tryz.func18, Tryz.ntmps18
  go_wp2_with fail
  go_ret2
  exact ⟨w.heap.size + 1, rfl, ⟨_, hY.out, by simp [YW.feet, Value.ownBlock], by simp [YW.held, Value.ownBlock, blkOf]⟩, hO.out⟩
theorem ynew_no (g nm : ByteArray) (w : World) (h : g.toList.isEmpty = true ∨ nm.toList.isEmpty = true) :
    Calls Tryz.prog 18 #[.string g, .string nm] w fun e w' => e = .returned (.tuple #[.pointer none, .int .i64 1]) ∧ w = w' := by
  cases hg : g.toList.isEmpty with
  | true =>
    have hg2 : (g.toList == []) = true := by rw [show g.toList = [] by simpa using hg]; rfl
    clear h hg
    go_enter Tryz.func18, Tryz.ntmps18
    go_wp2_with fail
    go_ret2
    exact ⟨rfl, rfl⟩
  | false =>
    have hg2 : (g.toList == []) = false := by cases hq : g.toList with | nil => rw [hq] at hg; cases hg | cons => rfl
    have hn2 : (nm.toList == []) = true := by
      rcases h with h | h
      · rw [hg] at h; cases h
      · rw [show nm.toList = [] by simpa using h]; rfl
    clear h hg
    go_enter Tryz.func18, Tryz.ntmps18
    go_wp2_with fail
    go_ret2
    exact ⟨rfl, rfl⟩
set_option maxRecDepth 100000 in
set_option maxHeartbeats 8000000 in
theorem ydeath_any (n : Nat) (g nm : ByteArray) (Y : YW) (s : EN) (p : Pay) (w : World) (h : YAt w n g nm Y s) (hM : MetsAt w p.a p.M) :
    Calls Tryz.prog 44 #[.pointer (some ⟨n, 0, none⟩), p.val] w (YPost n g nm Y (eDeath s p) w) := by
  have hW0 := pbox_own w p
  obtain ⟨p0, p1, p2, p3, p4, p5⟩ := pbox_cells w p (S := []) (by simp) _ (Own.refl _ _)
  have hv : p.val = .agg #[.int .u64 p.t, .bool p.h, .int .u64 p.s, .string p.u, .string p.b, .slice p.a p.M.length p.c] := rfl
  have hsame := Lib.hid fun W (ho : Own [] w W) => h.same ho
  have cB := rpbd_any p (pbox w p) (hM.nil' hW0)
  have hC := Lib.hid fun W (ho : Own [] w W) => ycells h W ho
  have hC2 := Lib.hid fun W Y' s' (hk : YAt W n g nm Y' s') => ycells hk W (Own.refl _ _)
  have hl4 := h.few.1.2.2
  unfold YPost eDeath
  rw [hv] at cB ⊢
  simp only [pbox] at hW0 cB p0 p1 p2 p3 p4 p5
  generalize p.bd = bd at *
  obtain ⟨bd1, bd2⟩ := bd
  simp only at *
  replace cB := Lib.hid cB
  replace hW0 := Lib.hid hW0
  cases bd2 with
  | false =>
    rw [if_pos rfl]
    clear hl4 h hM hv
    go_enter Tryz.func44, Tryz.ntmps44
    go_wp2_with (go_at_call 66; (with_reducible refine cB.out.mono ?_); rintro e w2 ⟨rfl, hO2⟩; have hX2 := Lib.hid (hW0.out.trans hO2); clear hO2)
    go_ret
    exact ⟨rfl, hsame.out _ hX2.out⟩
  | true =>
    rw [if_neg (by simp)]
    cases hon : s.online with
    | false =>
      rw [if_pos (.inl rfl)]
      rw [hon] at hC
      clear hl4 h hM hv hon
      go_enter Tryz.func44, Tryz.ntmps44
      go_wp2_with (go_at_call 66; (with_reducible refine cB.out.mono ?_); rintro e w2 ⟨rfl, hO2⟩; have hX2 := hW0.out.trans hO2; obtain ⟨⟨c0, c1, c2, c3, c4, c5, c6, c7, c8, c9⟩, _⟩ := hC.out _ hX2; replace hX2 := Lib.hid hX2; clear hO2)
      go_ret
      exact ⟨rfl, hsame.out _ hX2.out⟩
    | true =>
      rw [hon] at hC
      by_cases hb : bd1 = s.bd
      · rw [if_neg (by simp [hb])]
        rw [hb] at cB
        have hsb : (s.bd != s.bd) = false := by simp
        obtain ⟨da, dc, hdv⟩ := h.dvs.sl
        have hlen : Y.ds.length = s.dev.length := by rw [← h.dev]; simp
        rw [hlen] at hdv
        rw [hdv] at hC
        have hh := Lib.hid h
        replace hon := Lib.hid hon
        replace hdv := Lib.hid hdv
        clear h hM hv hb hlen
        go_enter Tryz.func44, Tryz.ntmps44
        go_wp2_with (go_at_call 66; (with_reducible refine cB.out.mono ?_); rintro e w2 ⟨rfl, hO2⟩; have hX2 := hW0.out.trans hO2; have hn2 := Nat.lt_of_lt_of_le (lt_of_heap hh.out.row) hX2.size; obtain ⟨⟨c0, c1, c2, c3, c4, c5, c6, c7, c8, c9⟩, hf⟩ := hC.out _ hX2; have f2 := hf 2; have f4 := hf 4; have f5 := hf 5; have f8 := hf 8; replace hX2 := Lib.hid hX2; clear hO2 hf)
        go_loopg [7] s.dev.length (fun m s7 wr => ∃ i : Nat, i ≤ s.dev.length ∧ m = s.dev.length - i ∧ s7 = .int .i64 i ∧
          Aside (∃ Y', YAt wr n g nm Y' { s with online := false, want := 0, begun := false, al := [], dev := offTo s.dev i } ∧ YLeft n Y w wr Y' ∧ Y'.dv = Y.dv))
        case atStart =>
          refine ⟨0, Nat.zero_le _, rfl, rfl, ?_⟩
          have r0 : w2.heap[n]? = some (.cells #[.string g, .string nm, .bool s.online, .int .i64 s.bd, .int .i64 s.want, .bool s.begun, .bool s.pending, .slice Y.ia s.items.length Y.ic, .pointer (some ⟨Y.ab, 0, none⟩), Y.dv] 69 (0, 0)) := hX2.out.heap hh.out.row (by simp)
          have r1 : (w2.setCell ⟨n, 2, none⟩ (.bool false)).heap[n]? = some (.cells #[.string g, .string nm, .bool false, .int .i64 s.bd, .int .i64 s.want, .bool s.begun, .bool s.pending, .slice Y.ia s.items.length Y.ic, .pointer (some ⟨Y.ab, 0, none⟩), Y.dv] 69 (0, 0)) := heap_setCell_same _ _ _ _ _ _ r0
          have r2 : ((w2.setCell ⟨n, 2, none⟩ (.bool false)).setCell ⟨n, 5, none⟩ (.bool false)).heap[n]? = some (.cells #[.string g, .string nm, .bool false, .int .i64 s.bd, .int .i64 s.want, .bool false, .bool s.pending, .slice Y.ia s.items.length Y.ic, .pointer (some ⟨Y.ab, 0, none⟩), Y.dv] 69 (0, 0)) := heap_setCell_same _ _ _ _ _ _ r1
          have r3 : (((w2.setCell ⟨n, 2, none⟩ (.bool false)).setCell ⟨n, 5, none⟩ (.bool false)).setCell ⟨n, 4, none⟩ (.int .i64 0)).heap[n]? = some (.cells #[.string g, .string nm, .bool false, .int .i64 s.bd, .int .i64 0, .bool false, .bool s.pending, .slice Y.ia s.items.length Y.ic, .pointer (some ⟨Y.ab, 0, none⟩), Y.dv] 69 (0, 0)) := heap_setCell_same _ _ _ _ _ _ r2
          have r4 : ((((w2.setCell ⟨n, 2, none⟩ (.bool false)).setCell ⟨n, 5, none⟩ (.bool false)).setCell ⟨n, 4, none⟩ (.int .i64 0)).setCell ⟨n, 8, none⟩ (.pointer (some ⟨w2.heap.size, 0, none⟩))).heap[n]? = some (.cells #[.string g, .string nm, .bool false, .int .i64 s.bd, .int .i64 0, .bool false, .bool s.pending, .slice Y.ia s.items.length Y.ic, .pointer (some ⟨w2.heap.size, 0, none⟩), Y.dv] 69 (0, 0)) := heap_setCell_same _ _ _ _ _ _ r3
          have hO4 : Own [n, Y.ab] w (((((w2.setCell ⟨n, 2, none⟩ (.bool false)).setCell ⟨n, 5, none⟩ (.bool false)).setCell ⟨n, 4, none⟩ (.int .i64 0)).setCell ⟨n, 8, none⟩ (.pointer (some ⟨w2.heap.size, 0, none⟩))).alloc (.cells #[.slice none 0 0] 65)) := (((((hX2.out.nil).setCell (.inl (by simp)) _).setCell (.inl (by simp)) _).setCell (.inl (by simp)) _).setCell (.inl (by simp)) _).alloc _
          have hTb := heap_alloc_new ((((w2.setCell ⟨n, 2, none⟩ (.bool false)).setCell ⟨n, 5, none⟩ (.bool false)).setCell ⟨n, 4, none⟩ (.int .i64 0)).setCell ⟨n, 8, none⟩ (.pointer (some ⟨w2.heap.size, 0, none⟩))) (.cells #[.slice none 0 0] 65)
          rw [show ((((w2.setCell ⟨n, 2, none⟩ (.bool false)).setCell ⟨n, 5, none⟩ (.bool false)).setCell ⟨n, 4, none⟩ (.int .i64 0)).setCell ⟨n, 8, none⟩ (.pointer (some ⟨w2.heap.size, 0, none⟩))).heap.size = w2.heap.size by simp] at hTb
          obtain ⟨hE, hL⟩ := hh.out.chg (s' := { s with online := false, want := 0, begun := false, al := [] }) (ab' := w2.heap.size) (v' := .slice none 0 0) hO4 (((Own.refl [] ((((w2.setCell ⟨n, 2, none⟩ (.bool false)).setCell ⟨n, 5, none⟩ (.bool false)).setCell ⟨n, 4, none⟩ (.int .i64 0)).setCell ⟨n, 8, none⟩ (.pointer (some ⟨w2.heap.size, 0, none⟩)))).alloc _).heap r4 (by simp)) ⟨hTb, ⟨by simp [rowOf], .inl ⟨rfl, rfl⟩⟩, by simp [Value.ownBlock]⟩ (.inr hX2.out.size) (by simp [Value.ownBlock]) rfl rfl (by simp)
          rw [offTo_zero]
          exact ⟨_, hE, hL, rfl⟩
        case round =>
          obtain ⟨i, hi, rfl, rfl, Y', hE, hL, hdv'⟩ := hrel
          obtain ⟨⟨_, _, _, _, _, _, _, _, _, z9⟩, _⟩ := hC2.out _ _ _ hE
          rw [hdv', hdv.out] at z9
          have i0 : (0 : Int) ≤ i := by omega
          by_cases hlt : i < s.dev.length
          · have i1 : (i : Int) < (s.dev.length : Int) := by omega
            have hxi : s.dev[i]? = some (s.dev[i]) := List.getElem?_eq_getElem hlt
            have hol : (offTo s.dev i).length = s.dev.length := by unfold offTo; simp; omega
            have hkl : i < (offTo s.dev i).length := by omega
            obtain ⟨gb, cp, d, e1, hd, hxd, hR⟩ := yd_at hE hkl
            have e1' : Y'.dv = .slice (some ⟨gb, 0, none⟩) (offTo s.dev i).length cp := e1
            have e2 : (Value.slice da s.dev.length dc) = .slice (some ⟨gb, 0, none⟩) s.dev.length cp := by
              rw [← hdv.out, ← hdv', e1']
              rw [hol]
            clear e1
            cases e2
            have hdx : d.x = s.dev[i] := by
              have h1 := offTo_get hxi
              have h2 : (offTo s.dev i)[i]? = some d.x := hxd
              rw [h1] at h2
              exact (Option.some.inj h2).symm
            obtain ⟨_, hfr⟩ := yd_cells hR hd
            have fr1 := hfr (i * 4 + 1)
            have hm := List.mem_of_getElem? hd
            have hOs : Own [gb] wr (wr.setCell ⟨gb, i * 4 + 1, none⟩ (.bool false)) := (Own.refl _ _).setCell (by simp) _
            have hgf : gb ∈ Y'.feet n := YW.feet_dv (by rw [e1']; rfl)
            obtain ⟨Y2, q1, q2, q3⟩ := hE.setD (i := i) (x' := dOff (s.dev[i])) e1' ⟨d.on false, by rw [← hdx]; rfl, yrow_on hR hd false, hOs, by rw [← hdx]; exact (hE.itd d hm).own hOs (fun b hb => by simp; rintro rfl; exact hE.apart.2 _ (YW.held_d hm hb) hgf), fun b hb => ⟨Nat.lt_of_lt_of_le (hE.lt b (YW.held_d hm hb)) hOs.size, .inl ⟨d, hd, hb⟩⟩⟩ (show (s.dev[i]).items.length ≤ 32 from hh.out.few.2 _ (List.getElem_mem hlt))
            have hst := offTo_step hxi
            have hfin := Lib.hid (show ∃ Y', YAt (wr.setCell ⟨gb, i * 4 + 1, none⟩ (.bool false)) n g nm Y' { s with online := false, want := 0, begun := false, al := [], dev := offTo s.dev (i + 1) } ∧ YLeft n Y w (wr.setCell ⟨gb, i * 4 + 1, none⟩ (.bool false)) Y' ∧ Y'.dv = Y.dv from ⟨Y2, by rw [← hst]; exact q1, hL.trans q2, by rw [q3, hdv']⟩)
            clear hE hL q1 q2 q3 hR hd hxd hdx hfr hxi hst hOs hkl hol hgf hm e1'
            go_wp2_with fail
            go_roundg (s.dev.length - (i + 1))
            case measure => omega
            case rel => exact ⟨i + 1, by omega, rfl, by go_num, hfin.out⟩
          · have hie : i = s.dev.length := by omega
            have hfin := Lib.hid (show ∃ Y', YAt wr n g nm Y' { s with online := false, want := 0, begun := false, al := [], dev := s.dev.map dOff } ∧ YLeft n Y w wr Y' from ⟨Y', by rw [hie, offTo_all] at hE; exact hE, hL⟩)
            clear hE hL hie
            go_wp2_with fail
            go_ret
            exact ⟨rfl, hfin.out⟩
      · rw [if_pos (.inr hb)]
        have hbb : (bd1 != s.bd) = true := by simpa using hb
        clear hl4 h hM hv hon hb
        go_enter Tryz.func44, Tryz.ntmps44
        go_wp2_with (go_at_call 66; (with_reducible refine cB.out.mono ?_); rintro e w2 ⟨rfl, hO2⟩; have hX2 := hW0.out.trans hO2; obtain ⟨⟨c0, c1, c2, c3, c4, c5, c6, c7, c8, c9⟩, _⟩ := hC.out _ hX2; replace hX2 := Lib.hid hX2; clear hO2)
        go_ret
        exact ⟨rfl, hsame.out _ hX2.out⟩
end Go.Proofs.YtjfmbjgniajagaaGreatDoor

set_option linter.unusedSimpArgs false
set_option linter.unusedVariables false
namespace Go.Proofs.YtjfmbjgniajagaaGreatDoor
open Go.RowKit

theorem YAt.pend {w : World} {n : Nat} {g nm : ByteArray} {Y : YW} {s : EN} (h : YAt w n g nm Y s) :
    YAt (w.setCell ⟨n, 6, none⟩ (.bool true)) n g nm Y { s with pending := true } ∧ YLeft n Y w (w.setCell ⟨n, 6, none⟩ (.bool true)) Y :=
  h.cells (s' := { s with pending := true }) ((Own.refl _ _).setCell (by simp) _) (a := Y.ia) (cap := Y.ic) (heap_setCell_same _ _ _ _ _ _ h.row) rfl rfl
    (h.itm.own ((Own.refl [n] _).setCell (by simp) _) (fun b hb => by simp; rintro rfl; exact h.apart.2 _ (YW.held_ia hb) (by unfold YW.feet; simp))) h.few.1.1 (fun b hb => ⟨by have := h.lt b (YW.held_ia hb); simpa using this, .inl (YW.held_ia hb)⟩)
theorem ypost_pend {n : Nat} {g nm : ByteArray} {Y Y' : YW} {s : EN} {w w0 w2 : World} (h0 : Own [] w w0) (hE : YAt w2 n g nm Y' s) (hL : YLeft n Y w0 w2 Y') :
    ∃ Y', YAt (w2.setCell ⟨n, 6, none⟩ (.bool true)) n g nm Y' { s with pending := true } ∧ YLeft n Y w (w2.setCell ⟨n, 6, none⟩ (.bool true)) Y' := by
  obtain ⟨h1, h2⟩ := hE.pend
  exact ⟨Y', h1, (YLeft.nil h0).trans (hL.trans h2)⟩
set_option maxRecDepth 100000 in
set_option maxHeartbeats 4000000 in
theorem ytake1_any (n : Nat) (g nm : ByteArray) (Y : YW) (s : EN) (dn : ByteArray) (p : Pay) (w : World) (h : YAt w n g nm Y s) (hr : Rises Dev.name s.dev) (hM : MetsAt w p.a p.M) (h0 : 0 ≤ p.s) :
    Calls Tryz.prog 32 #[.pointer (some ⟨n, 0, none⟩), .int .i64 1, .string dn, p.val] w (YPost n g nm Y (ePend (xBirth s p)) w) := by
  have hW0 := pbox_own w p
  obtain ⟨q0, q1, q2, q3, q4, q5⟩ := pbox_cells w p (S := []) (by simp) _ (Own.refl _ _)
  have cB := ybirth_any n g nm Y s p (pbox w p) (h.nil' hW0) (hM.nil' hW0) h0
  have hC := fun W Y' s' (hk : YAt W n g nm Y' s') => ycells hk W (Own.refl _ _)
  have hp := fun Y' s' w2 (hE : YAt w2 n g nm Y' s') hL => ypost_pend (w := w) (Y := Y) hW0 hE hL
  have hq := fun Y' s' w2 (hE : YAt w2 n g nm Y' s') (hL : YLeft n Y (pbox w p) w2 Y') => (⟨Y', hE, (YLeft.nil hW0).trans hL⟩ : ∃ Y', YAt w2 n g nm Y' s' ∧ YLeft n Y w w2 Y')
  unfold YPost at cB ⊢
  have hv : p.val = .agg #[.int .u64 p.t, .bool p.h, .int .u64 p.s, .string p.u, .string p.b, .slice p.a p.M.length p.c] := rfl
  rw [hv] at cB ⊢
  simp only [pbox] at cB hW0 hp hq q0 q1 q2 q3 q4 q5
  unfold ePend
  generalize xBirth s p = r at *
  obtain ⟨r1, r2⟩ := r
  simp only at cB ⊢
  replace hW0 := Lib.hid hW0
  replace cB := Lib.hid cB
  replace hC := Lib.hid hC
  replace hp := Lib.hid hp
  replace hq := Lib.hid hq
  clear hv h hr hM h0
  by_cases h3 : 3 ≤ r1
  · rw [if_pos h3]
    go_enter Tryz.func32, Tryz.ntmps32
    go_wp2_with (go_at_call 43; (with_reducible refine cB.out.mono ?_); rintro e w2 ⟨rfl, Y', hE', hL'⟩; obtain ⟨⟨_, _, _, _, _, _, y6, _⟩, hf6⟩ := hC.out _ _ _ hE'; have f6 := hf6 6; clear hf6; replace hE' := Lib.hid hE'; replace hL' := Lib.hid hL')
    go_ret
    exact ⟨rfl, hp.out _ _ _ hE'.out hL'.out⟩
  · rw [if_neg h3]
    go_enter Tryz.func32, Tryz.ntmps32
    go_wp2_with (go_at_call 43; (with_reducible refine cB.out.mono ?_); rintro e w2 ⟨rfl, Y', hE', hL'⟩; replace hE' := Lib.hid hE'; replace hL' := Lib.hid hL')
    go_ret
    exact ⟨rfl, hq.out _ _ _ hE'.out hL'.out⟩
set_option maxRecDepth 100000 in
set_option maxHeartbeats 4000000 in
theorem ytake2_any (n : Nat) (g nm : ByteArray) (Y : YW) (s : EN) (dn : ByteArray) (p : Pay) (w : World) (h : YAt w n g nm Y s) (hr : Rises Dev.name s.dev) (hM : MetsAt w p.a p.M) (h0 : 0 ≤ p.s) :
    Calls Tryz.prog 32 #[.pointer (some ⟨n, 0, none⟩), .int .i64 2, .string dn, p.val] w (YPost n g nm Y (ePend (eDeath s p)) w) := by
  have hW0 := pbox_own w p
  obtain ⟨q0, q1, q2, q3, q4, q5⟩ := pbox_cells w p (S := []) (by simp) _ (Own.refl _ _)
  have cB := ydeath_any n g nm Y s p (pbox w p) (h.nil' hW0) (hM.nil' hW0)
  have hC := fun W Y' s' (hk : YAt W n g nm Y' s') => ycells hk W (Own.refl _ _)
  have hp := fun Y' s' w2 (hE : YAt w2 n g nm Y' s') hL => ypost_pend (w := w) (Y := Y) hW0 hE hL
  have hq := fun Y' s' w2 (hE : YAt w2 n g nm Y' s') (hL : YLeft n Y (pbox w p) w2 Y') => (⟨Y', hE, (YLeft.nil hW0).trans hL⟩ : ∃ Y', YAt w2 n g nm Y' s' ∧ YLeft n Y w w2 Y')
  unfold YPost at cB ⊢
  have hv : p.val = .agg #[.int .u64 p.t, .bool p.h, .int .u64 p.s, .string p.u, .string p.b, .slice p.a p.M.length p.c] := rfl
  rw [hv] at cB ⊢
  simp only [pbox] at cB hW0 hp hq q0 q1 q2 q3 q4 q5
  unfold ePend
  generalize eDeath s p = r at *
  obtain ⟨r1, r2⟩ := r
  simp only at cB ⊢
  replace hW0 := Lib.hid hW0
  replace cB := Lib.hid cB
  replace hC := Lib.hid hC
  replace hp := Lib.hid hp
  replace hq := Lib.hid hq
  clear hv h hr hM h0
  by_cases h3 : 3 ≤ r1
  · rw [if_pos h3]
    go_enter Tryz.func32, Tryz.ntmps32
    go_wp2_with (go_at_call 44; (with_reducible refine cB.out.mono ?_); rintro e w2 ⟨rfl, Y', hE', hL'⟩; obtain ⟨⟨_, _, _, _, _, _, y6, _⟩, hf6⟩ := hC.out _ _ _ hE'; have f6 := hf6 6; clear hf6; replace hE' := Lib.hid hE'; replace hL' := Lib.hid hL')
    go_ret
    exact ⟨rfl, hp.out _ _ _ hE'.out hL'.out⟩
  · rw [if_neg h3]
    go_enter Tryz.func32, Tryz.ntmps32
    go_wp2_with (go_at_call 44; (with_reducible refine cB.out.mono ?_); rintro e w2 ⟨rfl, Y', hE', hL'⟩; replace hE' := Lib.hid hE'; replace hL' := Lib.hid hL')
    go_ret
    exact ⟨rfl, hq.out _ _ _ hE'.out hL'.out⟩
set_option maxRecDepth 100000 in
set_option maxHeartbeats 4000000 in
theorem ytake3_any (n : Nat) (g nm : ByteArray) (Y : YW) (s : EN) (dn : ByteArray) (p : Pay) (w : World) (h : YAt w n g nm Y s) (hr : Rises Dev.name s.dev) (hM : MetsAt w p.a p.M) (h0 : 0 ≤ p.s) :
    Calls Tryz.prog 32 #[.pointer (some ⟨n, 0, none⟩), .int .i64 3, .string dn, p.val] w (YPost n g nm Y (ePend (xData s p)) w) := by
  have hW0 := pbox_own w p
  obtain ⟨q0, q1, q2, q3, q4, q5⟩ := pbox_cells w p (S := []) (by simp) _ (Own.refl _ _)
  have cB := ydata_any n g nm Y s p (pbox w p) (h.nil' hW0) (hM.nil' hW0) h0
  have hC := fun W Y' s' (hk : YAt W n g nm Y' s') => ycells hk W (Own.refl _ _)
  have hp := fun Y' s' w2 (hE : YAt w2 n g nm Y' s') hL => ypost_pend (w := w) (Y := Y) hW0 hE hL
  have hq := fun Y' s' w2 (hE : YAt w2 n g nm Y' s') (hL : YLeft n Y (pbox w p) w2 Y') => (⟨Y', hE, (YLeft.nil hW0).trans hL⟩ : ∃ Y', YAt w2 n g nm Y' s' ∧ YLeft n Y w w2 Y')
  unfold YPost at cB ⊢
  have hv : p.val = .agg #[.int .u64 p.t, .bool p.h, .int .u64 p.s, .string p.u, .string p.b, .slice p.a p.M.length p.c] := rfl
  rw [hv] at cB ⊢
  simp only [pbox] at cB hW0 hp hq q0 q1 q2 q3 q4 q5
  unfold ePend
  generalize xData s p = r at *
  obtain ⟨r1, r2⟩ := r
  simp only at cB ⊢
  replace hW0 := Lib.hid hW0
  replace cB := Lib.hid cB
  replace hC := Lib.hid hC
  replace hp := Lib.hid hp
  replace hq := Lib.hid hq
  clear hv h hr hM h0
  by_cases h3 : 3 ≤ r1
  · rw [if_pos h3]
    go_enter Tryz.func32, Tryz.ntmps32
    go_wp2_with (go_at_call 45; (with_reducible refine cB.out.mono ?_); rintro e w2 ⟨rfl, Y', hE', hL'⟩; obtain ⟨⟨_, _, _, _, _, _, y6, _⟩, hf6⟩ := hC.out _ _ _ hE'; have f6 := hf6 6; clear hf6; replace hE' := Lib.hid hE'; replace hL' := Lib.hid hL')
    go_ret
    exact ⟨rfl, hp.out _ _ _ hE'.out hL'.out⟩
  · rw [if_neg h3]
    go_enter Tryz.func32, Tryz.ntmps32
    go_wp2_with (go_at_call 45; (with_reducible refine cB.out.mono ?_); rintro e w2 ⟨rfl, Y', hE', hL'⟩; replace hE' := Lib.hid hE'; replace hL' := Lib.hid hL')
    go_ret
    exact ⟨rfl, hq.out _ _ _ hE'.out hL'.out⟩
set_option maxRecDepth 100000 in
set_option maxHeartbeats 4000000 in
theorem ytake5_any (n : Nat) (g nm : ByteArray) (Y : YW) (s : EN) (dn : ByteArray) (p : Pay) (w : World) (h : YAt w n g nm Y s) (hr : Rises Dev.name s.dev) (hM : MetsAt w p.a p.M) (h0 : 0 ≤ p.s) :
    Calls Tryz.prog 32 #[.pointer (some ⟨n, 0, none⟩), .int .i64 5, .string dn, p.val] w (YPost n g nm Y (ePend (xDBirth s dn p)) w) := by
  have hW0 := pbox_own w p
  obtain ⟨q0, q1, q2, q3, q4, q5⟩ := pbox_cells w p (S := []) (by simp) _ (Own.refl _ _)
  have cB := ydbirth_any n g nm Y s dn p (pbox w p) (h.nil' hW0) hr (hM.nil' hW0) h0
  have hC := fun W Y' s' (hk : YAt W n g nm Y' s') => ycells hk W (Own.refl _ _)
  have hp := fun Y' s' w2 (hE : YAt w2 n g nm Y' s') hL => ypost_pend (w := w) (Y := Y) hW0 hE hL
  have hq := fun Y' s' w2 (hE : YAt w2 n g nm Y' s') (hL : YLeft n Y (pbox w p) w2 Y') => (⟨Y', hE, (YLeft.nil hW0).trans hL⟩ : ∃ Y', YAt w2 n g nm Y' s' ∧ YLeft n Y w w2 Y')
  unfold YPost at cB ⊢
  have hv : p.val = .agg #[.int .u64 p.t, .bool p.h, .int .u64 p.s, .string p.u, .string p.b, .slice p.a p.M.length p.c] := rfl
  rw [hv] at cB ⊢
  simp only [pbox] at cB hW0 hp hq q0 q1 q2 q3 q4 q5
  unfold ePend
  generalize xDBirth s dn p = r at *
  obtain ⟨r1, r2⟩ := r
  simp only at cB ⊢
  replace hW0 := Lib.hid hW0
  replace cB := Lib.hid cB
  replace hC := Lib.hid hC
  replace hp := Lib.hid hp
  replace hq := Lib.hid hq
  clear hv h hr hM h0
  by_cases h3 : 3 ≤ r1
  · rw [if_pos h3]
    go_enter Tryz.func32, Tryz.ntmps32
    go_wp2_with (go_at_call 46; (with_reducible refine cB.out.mono ?_); rintro e w2 ⟨rfl, Y', hE', hL'⟩; obtain ⟨⟨_, _, _, _, _, _, y6, _⟩, hf6⟩ := hC.out _ _ _ hE'; have f6 := hf6 6; clear hf6; replace hE' := Lib.hid hE'; replace hL' := Lib.hid hL')
    go_ret
    exact ⟨rfl, hp.out _ _ _ hE'.out hL'.out⟩
  · rw [if_neg h3]
    go_enter Tryz.func32, Tryz.ntmps32
    go_wp2_with (go_at_call 46; (with_reducible refine cB.out.mono ?_); rintro e w2 ⟨rfl, Y', hE', hL'⟩; replace hE' := Lib.hid hE'; replace hL' := Lib.hid hL')
    go_ret
    exact ⟨rfl, hq.out _ _ _ hE'.out hL'.out⟩
set_option maxRecDepth 100000 in
set_option maxHeartbeats 4000000 in
theorem ytake6_any (n : Nat) (g nm : ByteArray) (Y : YW) (s : EN) (dn : ByteArray) (p : Pay) (w : World) (h : YAt w n g nm Y s) (hr : Rises Dev.name s.dev) (hM : MetsAt w p.a p.M) (h0 : 0 ≤ p.s) :
    Calls Tryz.prog 32 #[.pointer (some ⟨n, 0, none⟩), .int .i64 6, .string dn, p.val] w (YPost n g nm Y (ePend (xDDeath s dn p)) w) := by
  have hW0 := pbox_own w p
  obtain ⟨q0, q1, q2, q3, q4, q5⟩ := pbox_cells w p (S := []) (by simp) _ (Own.refl _ _)
  have cB := ytells_any n g nm Y s 6 (.inl rfl) dn p (pbox w p) (h.nil' hW0) hr (hM.nil' hW0) h0
  rw [if_pos rfl] at cB
  have hC := fun W Y' s' (hk : YAt W n g nm Y' s') => ycells hk W (Own.refl _ _)
  have hp := fun Y' s' w2 (hE : YAt w2 n g nm Y' s') hL => ypost_pend (w := w) (Y := Y) hW0 hE hL
  have hq := fun Y' s' w2 (hE : YAt w2 n g nm Y' s') (hL : YLeft n Y (pbox w p) w2 Y') => (⟨Y', hE, (YLeft.nil hW0).trans hL⟩ : ∃ Y', YAt w2 n g nm Y' s' ∧ YLeft n Y w w2 Y')
  unfold YPost at cB ⊢
  have hv : p.val = .agg #[.int .u64 p.t, .bool p.h, .int .u64 p.s, .string p.u, .string p.b, .slice p.a p.M.length p.c] := rfl
  rw [hv] at cB ⊢
  simp only [pbox] at cB hW0 hp hq q0 q1 q2 q3 q4 q5
  unfold ePend
  generalize xDDeath s dn p = r at *
  obtain ⟨r1, r2⟩ := r
  simp only at cB ⊢
  replace hW0 := Lib.hid hW0
  replace cB := Lib.hid cB
  replace hC := Lib.hid hC
  replace hp := Lib.hid hp
  replace hq := Lib.hid hq
  clear hv h hr hM h0
  by_cases h3 : 3 ≤ r1
  · rw [if_pos h3]
    go_enter Tryz.func32, Tryz.ntmps32
    go_wp2_with (go_at_call 47; (with_reducible refine cB.out.mono ?_); rintro e w2 ⟨rfl, Y', hE', hL'⟩; obtain ⟨⟨_, _, _, _, _, _, y6, _⟩, hf6⟩ := hC.out _ _ _ hE'; have f6 := hf6 6; clear hf6; replace hE' := Lib.hid hE'; replace hL' := Lib.hid hL')
    go_ret
    exact ⟨rfl, hp.out _ _ _ hE'.out hL'.out⟩
  · rw [if_neg h3]
    go_enter Tryz.func32, Tryz.ntmps32
    go_wp2_with (go_at_call 47; (with_reducible refine cB.out.mono ?_); rintro e w2 ⟨rfl, Y', hE', hL'⟩; replace hE' := Lib.hid hE'; replace hL' := Lib.hid hL')
    go_ret
    exact ⟨rfl, hq.out _ _ _ hE'.out hL'.out⟩
set_option maxRecDepth 100000 in
set_option maxHeartbeats 4000000 in
theorem ytake7_any (n : Nat) (g nm : ByteArray) (Y : YW) (s : EN) (dn : ByteArray) (p : Pay) (w : World) (h : YAt w n g nm Y s) (hr : Rises Dev.name s.dev) (hM : MetsAt w p.a p.M) (h0 : 0 ≤ p.s) :
    Calls Tryz.prog 32 #[.pointer (some ⟨n, 0, none⟩), .int .i64 7, .string dn, p.val] w (YPost n g nm Y (ePend (xDData s dn p)) w) := by
  have hW0 := pbox_own w p
  obtain ⟨q0, q1, q2, q3, q4, q5⟩ := pbox_cells w p (S := []) (by simp) _ (Own.refl _ _)
  have cB := ytells_any n g nm Y s 7 (.inr rfl) dn p (pbox w p) (h.nil' hW0) hr (hM.nil' hW0) h0
  rw [if_neg (by decide)] at cB
  have hC := fun W Y' s' (hk : YAt W n g nm Y' s') => ycells hk W (Own.refl _ _)
  have hp := fun Y' s' w2 (hE : YAt w2 n g nm Y' s') hL => ypost_pend (w := w) (Y := Y) hW0 hE hL
  have hq := fun Y' s' w2 (hE : YAt w2 n g nm Y' s') (hL : YLeft n Y (pbox w p) w2 Y') => (⟨Y', hE, (YLeft.nil hW0).trans hL⟩ : ∃ Y', YAt w2 n g nm Y' s' ∧ YLeft n Y w w2 Y')
  unfold YPost at cB ⊢
  have hv : p.val = .agg #[.int .u64 p.t, .bool p.h, .int .u64 p.s, .string p.u, .string p.b, .slice p.a p.M.length p.c] := rfl
  rw [hv] at cB ⊢
  simp only [pbox] at cB hW0 hp hq q0 q1 q2 q3 q4 q5
  unfold ePend
  generalize xDData s dn p = r at *
  obtain ⟨r1, r2⟩ := r
  simp only at cB ⊢
  replace hW0 := Lib.hid hW0
  replace cB := Lib.hid cB
  replace hC := Lib.hid hC
  replace hp := Lib.hid hp
  replace hq := Lib.hid hq
  clear hv h hr hM h0
  by_cases h3 : 3 ≤ r1
  · rw [if_pos h3]
    go_enter Tryz.func32, Tryz.ntmps32
    go_wp2_with (go_at_call 47; (with_reducible refine cB.out.mono ?_); rintro e w2 ⟨rfl, Y', hE', hL'⟩; obtain ⟨⟨_, _, _, _, _, _, y6, _⟩, hf6⟩ := hC.out _ _ _ hE'; have f6 := hf6 6; clear hf6; replace hE' := Lib.hid hE'; replace hL' := Lib.hid hL')
    go_ret
    exact ⟨rfl, hp.out _ _ _ hE'.out hL'.out⟩
  · rw [if_neg h3]
    go_enter Tryz.func32, Tryz.ntmps32
    go_wp2_with (go_at_call 47; (with_reducible refine cB.out.mono ?_); rintro e w2 ⟨rfl, Y', hE', hL'⟩; replace hE' := Lib.hid hE'; replace hL' := Lib.hid hL')
    go_ret
    exact ⟨rfl, hq.out _ _ _ hE'.out hL'.out⟩
set_option maxRecDepth 100000 in
set_option maxHeartbeats 4000000 in
theorem ytakeX_any (n : Nat) (g nm : ByteArray) (Y : YW) (s : EN) (dn : ByteArray) (p : Pay) (k : Int) (w : World) (h : YAt w n g nm Y s) (h1 : k ≠ 1) (h2 : k ≠ 2) (h3 : k ≠ 3) (h5 : k ≠ 5) (h6 : k ≠ 6) (h7 : k ≠ 7) :
    Calls Tryz.prog 32 #[.pointer (some ⟨n, 0, none⟩), .int .i64 k, .string dn, p.val] w (YPost n g nm Y (0, s) w) := by
  have hW0 := pbox_own w p
  have hsame := h.same hW0
  unfold YPost
  have hv : p.val = .agg #[.int .u64 p.t, .bool p.h, .int .u64 p.s, .string p.u, .string p.b, .slice p.a p.M.length p.c] := rfl
  rw [hv]
  simp only [pbox] at hsame
  have b1 : (k == 1) = false := by simpa using h1
  have b2 : (k == 2) = false := by simpa using h2
  have b3 : (k == 3) = false := by simpa using h3
  have b5 : (k == 5) = false := by simpa using h5
  have b6 : (k == 6) = false := by simpa using h6
  have b7 : (k == 7) = false := by simpa using h7
  replace hsame := Lib.hid hsame
  clear hv h hW0 h1 h2 h3 h5 h6 h7
  go_enter Tryz.func32, Tryz.ntmps32
  go_wp2_with fail
  go_ret
  exact ⟨rfl, hsame.out⟩
theorem ytake_any (n : Nat) (g nm : ByteArray) (Y : YW) (s : EN) (k : Int) (dn : ByteArray) (p : Pay) (w : World) (h : YAt w n g nm Y s) (hr : Rises Dev.name s.dev) (hM : MetsAt w p.a p.M) (h0 : 0 ≤ p.s) :
    Calls Tryz.prog 32 #[.pointer (some ⟨n, 0, none⟩), .int .i64 k, .string dn, p.val] w (YPost n g nm Y (xTake s k dn p) w) := by
  unfold xTake
  by_cases h1 : k = 1
  · subst h1; rw [if_pos rfl]; exact ytake1_any n g nm Y s dn p w h hr hM h0
  rw [if_neg h1]
  by_cases h2 : k = 2
  · subst h2; rw [if_pos rfl]; exact ytake2_any n g nm Y s dn p w h hr hM h0
  rw [if_neg h2]
  by_cases h3 : k = 3
  · subst h3; rw [if_pos rfl]; exact ytake3_any n g nm Y s dn p w h hr hM h0
  rw [if_neg h3]
  by_cases h5 : k = 5
  · subst h5; rw [if_pos rfl]; exact ytake5_any n g nm Y s dn p w h hr hM h0
  rw [if_neg h5]
  by_cases h6 : k = 6
  · subst h6; rw [if_pos rfl]; exact ytake6_any n g nm Y s dn p w h hr hM h0
  rw [if_neg h6]
  by_cases h7 : k = 7
  · subst h7; rw [if_pos rfl]; exact ytake7_any n g nm Y s dn p w h hr hM h0
  rw [if_neg h7]
  exact ytakeX_any n g nm Y s dn p k w h h1 h2 h3 h5 h6 h7
end Go.Proofs.YtjfmbjgniajagaaGreatDoor

set_option linter.unusedSimpArgs false
set_option linter.unusedVariables false
namespace Go.Proofs.YtjfmbjgniajagaaGreatDoor
open Go.RowKit

/-- Both nodes, alike, apart, made behind w0. -/
def EB (w0 wr : World) (n xn : Nat) (g nm : ByteArray) (s x : EN) : Prop :=
  ∃ L Y, EdgeAt wr n g nm L s ∧ YAt wr xn g nm Y x ∧ EInv s ∧ ELike s x ∧ (∀ z ∈ L.feet n, w0.heap.size ≤ z ∧ z ∉ Y.feet xn ∧ z ∉ Y.held) ∧ (∀ z ∈ Y.feet xn, w0.heap.size ≤ z) ∧ Own [] w0 wr
theorem EB.nil' {w0 wr w' : World} {n xn : Nat} {g nm : ByteArray} {s x : EN} (h : EB w0 wr n xn g nm s x) (ho : Own [] wr w') : EB w0 w' n xn g nm s x := by
  obtain ⟨L, Y, h1, h2, h3, h4, h5, h6, h7⟩ := h
  exact ⟨L, Y, h1.nil' ho, h2.nil' ho, h3, h4, h5, h6, h7.trans ho⟩
theorem EB.own {w0 wr : World} {n xn : Nat} {g nm : ByteArray} {s x : EN} (h : EB w0 wr n xn g nm s x) : Own [] w0 wr := by
  obtain ⟨L, Y, h1, h2, h3, h4, h5, h6, h7⟩ := h
  exact h7
theorem EB.ei {w0 wr : World} {n xn : Nat} {g nm : ByteArray} {s x : EN} (h : EB w0 wr n xn g nm s x) : EI w0 wr n g nm s := by
  obtain ⟨L, Y, h1, h2, h3, h4, h5, h6, h7⟩ := h
  exact ⟨⟨L, h1, fun z hz => (h5 z hz).1, h7⟩, h3⟩
theorem ELike.dev {s x : EN} (h : ELike s x) : x.dev = s.dev ∧ x.online = s.online ∧ x.pending = s.pending ∧ x.items = s.items ∧ x.al.length = s.al.length ∧ bdV x = bdV s ∧ nextV x = nextV s := by
  obtain ⟨R, rfl, hp⟩ := h
  exact ⟨rfl, rfl, rfl, rfl, hp.length_eq.symm, rfl, rfl⟩
/-- What the one's step leaves of the other. -/
theorem EB.step {w0 wr : World} {n xn : Nat} {g nm : ByteArray} {s x : EN} (h : EB w0 wr n xn g nm s x) (k : Int) (dn : ByteArray) (p : Pay) {W0 : World} (hA : Own [] wr W0) (hP : PayAt W0 p) (hE : Errs w0) :
    Calls Tryz.prog 10 #[.pointer (some ⟨n, 0, none⟩), .int .i64 k, .string dn, .agg #[.int .u64 p.t, .bool p.h, .int .u64 p.s, .string p.u, .string p.b, .slice p.a p.M.length p.c]] W0 fun e w2 => e = .returned (.int .i64 (eTake s k dn p).1) ∧ Own [] w0 w2 ∧
      (∃ S, Own S W0 w2 ∧ ∀ z ∈ S, z < wr.heap.size ∧ w0.heap.size ≤ z) ∧
      (∀ W, Own [] w2 W → PayAt W p → Calls Tryz.prog 32 #[.pointer (some ⟨xn, 0, none⟩), .int .i64 k, .string dn, .agg #[.int .u64 p.t, .bool p.h, .int .u64 p.s, .string p.u, .string p.b, .slice p.a p.M.length p.c]] W fun e w3 => e = .returned (.int .i64 (eTake s k dn p).1) ∧
        EB w0 w3 n xn g nm (eTake s k dn p).2 (xTake x k dn p).2 ∧ ∃ S, Own S W w3 ∧ ∀ z ∈ S, z < wr.heap.size ∧ w0.heap.size ≤ z) := by
  obtain ⟨L, Y, h1, h2, h3, h4, h5, h6, h7⟩ := h
  have hn := h1.tab.nodup
  obtain ⟨l1, l2⟩ := like_take h4 hn k dn p hP.1
  refine (take_e n g nm L s k dn p W0 (h1.nil' hA) h3.1 hP.2 hP.1 (hE.nil (h7.trans hA))).mono ?_
  rintro e w2 ⟨rfl, L', k1, k2, k3⟩
  have hY2 := (h2.nil' hA).own k2 (fun z hz hx => (h5 z hx).2.1 hz) (fun z hz hx => (h5 z hx).2.2 hz)
  have hO2 : Own [] w0 w2 := (h7.trans hA).trans' k2 (fun z hz => .inr (h5 z hz).1)
  refine ⟨rfl, hO2, ⟨_, k2, fun z hz => ⟨h1.lt z hz, (h5 z hz).1⟩⟩, fun W ho hPW => ?_⟩
  have hD : x.dev = s.dev := h4.dev.1
  refine (ytake_any xn g nm Y x k dn p W (hY2.nil' ho) (by rw [hD]; exact h3.1) hPW.2 hPW.1).mono ?_
  rintro e w3 ⟨rfl, Y', q1, q2, q3, q4⟩
  have hsz := k2.size
  have hsz0 := hA.size
  have hsz2 := ho.size
  have hL' : ∀ z ∈ L'.feet n, w0.heap.size ≤ z ∧ z ∉ Y.feet xn ∧ z ∉ Y.held ∧ z < w2.heap.size := fun z hz => by
    have hlt := k1.lt z hz
    rcases k3 z hz with h8 | h8
    · exact ⟨(h5 z h8).1, (h5 z h8).2.1, (h5 z h8).2.2, hlt⟩
    · exact ⟨Nat.le_trans h7.size (Nat.le_trans hsz0 h8), fun hx => by have := h2.flt z hx; omega, fun hx => by have := h2.lt z hx; omega, hlt⟩
  refine ⟨by rw [← l1], ⟨L', Y', (k1.nil' ho).own q2 (fun z hz => (hL' z hz).2.1), q1, eTake_inv h3 k dn p, l2, fun z hz => ?_, fun z hz => ?_, (hO2.trans ho).trans' q2 (fun z hz => .inr (h6 z hz))⟩, ⟨_, q2, fun z hz => ⟨h2.flt z hz, h6 z hz⟩⟩⟩
  · obtain ⟨r1, r2, r3, r4⟩ := hL' z hz
    exact ⟨r1, fun hx => by rcases q3 z hx with h9 | h9; exact r2 h9; omega, fun hx => by rcases q4 z hx with h9 | h9; exact r3 h9; omega⟩
  · rcases q3 z hz with h9 | h9
    · exact h6 z h9
    · exact Nat.le_trans (Nat.le_trans h7.size (Nat.le_trans hsz0 hsz)) (Nat.le_trans hsz2 h9)
end Go.Proofs.YtjfmbjgniajagaaGreatDoor

set_option linter.unusedSimpArgs false
set_option linter.unusedVariables false
namespace Go.Proofs.YtjfmbjgniajagaaGreatDoor
open Go.RowKit

theorem erefuse_any (n : Nat) (g nm : ByteArray) (L : EW) (s : EN) (w : World) (h : EdgeAt w n g nm L s) : Calls Tryz.prog 21 #[.pointer (some ⟨n, 0, none⟩)] w fun e w' => e = .returned (.int .i64 3) ∧ EdgeAt w' n g nm L { s with pending := true } ∧ Own [n] w w' := by
  obtain ⟨⟨k2, k3, k4, k5, k6, k7, k8⟩, f2, f3, f5, f6, f7, f8⟩ := edge_cells h (S := []) (by simp) _ (Own.refl _ _)
  have cN := Lib.hid (enone_any n ⟨L.rb, 0, none⟩ w k4)
  have hp := Lib.hid h.pend
  clear h k2 k3 k6 k7 k8 f2 f3 f6 f7 f8
  go_enter Tryz.func21, Tryz.ntmps21
  go_wp2_with (go_at_call 24; (with_reducible refine cN.out.mono ?_); rintro e w1 ⟨rfl, rfl⟩)
  go_ret
  exact ⟨rfl, hp.out⟩
/-- Both are pending. -/
theorem EB.refuse {w0 wr : World} {n xn : Nat} {g nm : ByteArray} {s x : EN} (h : EB w0 wr n xn g nm s x) :
    (wr.cell? ⟨xn, 6, none⟩ = some (.bool x.pending) ∧ wr.frozen? ⟨xn, 6, none⟩ = false) ∧
    ∀ W, Own [] (wr.setCell ⟨xn, 6, none⟩ (.bool true)) W → Calls Tryz.prog 21 #[.pointer (some ⟨n, 0, none⟩)] W fun e w' => e = .returned (.int .i64 3) ∧ EB w0 w' n xn g nm { s with pending := true } { x with pending := true } := by
  obtain ⟨L, Y, h1, h2, h3, ⟨R, hR1, hR2⟩, h5, h6, h7⟩ := h
  obtain ⟨⟨_, _, _, _, _, _, y6, _⟩, hf⟩ := ycells h2 wr (Own.refl _ _)
  obtain ⟨q1, q2, q3, q4⟩ := h2.pend
  have hxn : xn ∈ Y.feet xn := by unfold YW.feet; simp
  have hO1 : Own [xn] wr (wr.setCell ⟨xn, 6, none⟩ (.bool true)) := (Own.refl _ _).setCell (by simp) _
  have hE := h1.own hO1 (fun z hz => by simp; rintro rfl; exact (h5 _ hz).2.1 hxn)
  have hnf : n ∈ L.feet n := by unfold EW.feet; simp
  refine ⟨⟨y6, hf 6⟩, fun W ho => (erefuse_any n g nm L s _ (hE.nil' ho)).mono ?_⟩
  rintro e w' ⟨rfl, k1, k2⟩
  refine ⟨rfl, L, Y, k1, (q1.nil' ho).own k2 (fun z hz => by simp; rintro rfl; exact (h5 _ hnf).2.1 hz) (fun z hz => by simp; rintro rfl; exact (h5 _ hnf).2.2 hz), h3, ⟨R, by rw [hR1], hR2⟩, h5, h6, ((h7.trans' hO1 (fun z hz => .inr (by simp at hz; subst hz; exact h6 _ hxn))).trans ho).trans' k2 (fun z hz => .inr (by simp at hz; subst hz; exact (h5 _ hnf).1))⟩
set_option maxRecDepth 100000 in
set_option maxHeartbeats 8000000 in
theorem edo_any (w0 wr : World) (n xn : Nat) (g nm : ByteArray) (s x : EN) (y : EAct) (h : EB w0 wr n xn g nm s x) (hP : PayAt w0 y.p) (hE : Errs w0) :
    Calls Tryz.prog 19 #[.pointer (some ⟨n, 0, none⟩), .pointer (some ⟨xn, 0, none⟩), .agg #[.int .i64 y.k, .string y.dev, .int .u64 y.p.t, .bool y.p.h, .int .u64 y.p.s, .string y.p.u, .string y.p.b, .slice y.p.a y.p.M.length y.p.c]] wr fun e w' => e = .returned (.bool true) ∧ ∃ s' x', EB w0 w' n xn g nm s' x' := by
  have hA : Own [] wr (wr.alloc (.cells #[.int .i64 y.k, .string y.dev, .int .u64 y.p.t, .bool y.p.h, .int .u64 y.p.s, .string y.p.u, .string y.p.b, .slice y.p.a y.p.M.length y.p.c] 50)) := (Own.refl _ _).alloc _
  have hr0 := heap_alloc_new wr (.cells #[.int .i64 y.k, .string y.dev, .int .u64 y.p.t, .bool y.p.h, .int .u64 y.p.s, .string y.p.u, .string y.p.b, .slice y.p.a y.p.M.length y.p.c] 50)
  obtain ⟨⟨c0, c1, c2, c3, c4, c5, c6, c7⟩, _⟩ := blk8 hr0
  by_cases hk : y.k = 0
  · obtain ⟨⟨y6, f6⟩, cR⟩ := h.refuse
    rw [hk] at *
    have cR := Lib.hid (cR _ ((Own.refl [] (wr.setCell ⟨xn, 6, none⟩ (.bool true))).alloc (.cells #[.int .i64 0, .string y.dev, .int .u64 y.p.t, .bool y.p.h, .int .u64 y.p.s, .string y.p.u, .string y.p.b, .slice y.p.a y.p.M.length y.p.c] 50)))
    have hxl : xn < wr.heap.size := by
      obtain ⟨L, Y, _, h2, _⟩ := h
      exact lt_of_heap h2.row
    clear h hP hE hr0 hA hk
    go_enter Tryz.func19, Tryz.ntmps19
    go_wp2_with (go_at_call 21; refine cR.out.mono ?_; rintro e w2 ⟨rfl, hB⟩; replace hB := Lib.hid hB)
    go_ret
    exact ⟨rfl, _, _, hB.out⟩
  · have hkb : (y.k == 0) = false := by simpa using hk
    have hAd := hA.drew
    have cT := h.step y.k y.dev y.p hAd (hP.nil' (h.own.trans hAd)) hE
    have hPx := Lib.hid fun W (ho : Own [] w0 W) => hP.nil' ho
    have hB0 : (wr.alloc (.cells #[.int .i64 y.k, .string y.dev, .int .u64 y.p.t, .bool y.p.h, .int .u64 y.p.s, .string y.p.u, .string y.p.b, .slice y.p.a y.p.M.length y.p.c] 50)).drew.heap[wr.heap.size]? = some (.cells #[.int .i64 y.k, .string y.dev, .int .u64 y.p.t, .bool y.p.h, .int .u64 y.p.s, .string y.p.u, .string y.p.b, .slice y.p.a y.p.M.length y.p.c] 50 (0, 0)) := hr0
    have hK : ∀ w1 w2 : World, w1.heap[wr.heap.size]? = some (.cells #[.int .i64 y.k, .string y.dev, .int .u64 y.p.t, .bool y.p.h, .int .u64 y.p.s, .string y.p.u, .string y.p.b, .slice y.p.a y.p.M.length y.p.c] 50 (0, 0)) → (∃ S, Own S w1 w2 ∧ ∀ z ∈ S, z < wr.heap.size ∧ w0.heap.size ≤ z) → w2.heap[wr.heap.size]? = some (.cells #[.int .i64 y.k, .string y.dev, .int .u64 y.p.t, .bool y.p.h, .int .u64 y.p.s, .string y.p.u, .string y.p.b, .slice y.p.a y.p.M.length y.p.c] 50 (0, 0)) := fun w1 w2 hr ⟨S, ho, hz⟩ => ho.heap hr (fun hx => by have := (hz _ hx).1; omega)
    have hS : ∀ W : World, W.heap[wr.heap.size]? = some (.cells #[.int .i64 y.k, .string y.dev, .int .u64 y.p.t, .bool y.p.h, .int .u64 y.p.s, .string y.p.u, .string y.p.b, .slice y.p.a y.p.M.length y.p.c] 50 (0, 0)) → W.cell? ⟨wr.heap.size, 0, none⟩ = some (.int .i64 y.k) ∧ W.cell? ⟨wr.heap.size, 1, none⟩ = some (.string y.dev) ∧ W.cell? ⟨wr.heap.size, 2, none⟩ = some (.int .u64 y.p.t) ∧ W.cell? ⟨wr.heap.size, 3, none⟩ = some (.bool y.p.h) ∧ W.cell? ⟨wr.heap.size, 4, none⟩ = some (.int .u64 y.p.s) ∧ W.cell? ⟨wr.heap.size, 5, none⟩ = some (.string y.p.u) ∧ W.cell? ⟨wr.heap.size, 6, none⟩ = some (.string y.p.b) ∧ W.cell? ⟨wr.heap.size, 7, none⟩ = some (.slice y.p.a y.p.M.length y.p.c) := fun W hr => (blk8 hr).1
    replace cT := Lib.hid cT
    replace hB0 := Lib.hid hB0
    replace hK := Lib.hid hK
    replace hS := Lib.hid hS
    clear h hP hE hr0 hA hAd
    go_enter Tryz.func19, Tryz.ntmps19
    go_wp2_with fail
    go_region_held3 (fun W => W.cell? ⟨wr.heap.size, 0, none⟩ = some (.int .i64 y.k) ∧ W.cell? ⟨wr.heap.size, 1, none⟩ = some (.string y.dev) ∧ W.cell? ⟨wr.heap.size, 2, none⟩ = some (.int .u64 y.p.t) ∧ W.cell? ⟨wr.heap.size, 3, none⟩ = some (.bool y.p.h) ∧ W.cell? ⟨wr.heap.size, 4, none⟩ = some (.int .u64 y.p.s) ∧ W.cell? ⟨wr.heap.size, 5, none⟩ = some (.string y.p.u) ∧ W.cell? ⟨wr.heap.size, 6, none⟩ = some (.string y.p.b) ∧ W.cell? ⟨wr.heap.size, 7, none⟩ = some (.slice y.p.a y.p.M.length y.p.c))
      (first | exact hS.out _ hB3.out | exact hS.out _ hB2.out | exact hS.out _ hB0.out | go_keep)
      ((first
        | (go_at_call 10; refine cT.out.mono ?_; rintro e w2 ⟨rfl, hO2, hS2, cX⟩; have hB2 := Lib.hid (hK.out _ _ hB0.out hS2); replace hO2 := Lib.hid hO2; replace cX := Lib.hid cX; clear hS2)
        | (go_at_call 32; refine (cX.out _ (Own.refl [] _) (hPx.out _ hO2.out)).mono ?_; rintro e w3 ⟨rfl, hE3, hS3⟩; have hB3 := Lib.hid (hK.out _ _ hB2.out hS3); replace hE3 := Lib.hid hE3; clear hS3)))
    go_wp2_with fail
    go_ret
    exact ⟨by simp, _, _, hE3.out⟩
end Go.Proofs.YtjfmbjgniajagaaGreatDoor

set_option linter.unusedSimpArgs false
set_option linter.unusedVariables false
namespace Go.Proofs.YtjfmbjgniajagaaGreatDoor
open Go.RowKit

theorem enew_no (g nm : ByteArray) (w : World) (h : g.toList.isEmpty = true ∨ nm.toList.isEmpty = true) :
    Calls Tryz.prog 9 #[.string g, .string nm] w fun e w' => e = .returned (.tuple #[.pointer none, .int .i64 1]) ∧ w = w' := by
  cases hg : g.toList.isEmpty with
  | true =>
    have hg2 : (g.toList == []) = true := by rw [show g.toList = [] by simpa using hg]; rfl
    clear h hg
    go_enter Tryz.func9, Tryz.ntmps9
    go_wp2_with fail
    go_ret2
    exact ⟨rfl, rfl⟩
  | false =>
    have hg2 : (g.toList == []) = false := by cases hq : g.toList with | nil => rw [hq] at hg; cases hg | cons => rfl
    have hn2 : (nm.toList == []) = true := by
      rcases h with h | h
      · rw [hg] at h; cases h
      · rw [show nm.toList = [] by simpa using h]; rfl
    clear h hg
    go_enter Tryz.func9, Tryz.ntmps9
    go_wp2_with fail
    go_ret2
    exact ⟨rfl, rfl⟩
/-- Both are made. -/
theorem EB.new (g nm : ByteArray) (w : World) (hg : g.toList.isEmpty = false) (hn : nm.toList.isEmpty = false) :
    Calls Tryz.prog 9 #[.string g, .string nm] w fun e w1 => ∃ n, e = .returned (.tuple #[.pointer (some ⟨n, 0, none⟩), .int .i64 0]) ∧
      Calls Tryz.prog 18 #[.string g, .string nm] w1 fun e w2 => ∃ xn, e = .returned (.tuple #[.pointer (some ⟨xn, 0, none⟩), .int .i64 0]) ∧ EB w w2 n xn g nm ⟨false, 0, 0, false, false, [], [], []⟩ ⟨false, 0, 0, false, false, [], [], []⟩ := by
  refine (enew_any g nm w hg hn).mono ?_
  rintro e w1 ⟨n, L, rfl, h1, h2, h3⟩
  refine ⟨n, rfl, (ynew_any g nm w1 hg hn).mono ?_⟩
  rintro e w2 ⟨xn, rfl, ⟨Y, k1, k2, k3⟩, k4⟩
  refine ⟨xn, rfl, L, Y, h1.nil' k4, k1, einv_new, ⟨[], rfl, List.Perm.refl _⟩, fun z hz => ?_, fun z hz => Nat.le_trans h3.size (k2 z hz), h3.trans k4⟩
  have hlt := h1.lt z hz
  exact ⟨h2 z hz, fun hx => by have := k2 z hx; omega, fun hx => by have := k3 z hx; omega⟩
/-- What the document's node shows. -/
theorem EB.facts {w0 wr : World} {n xn : Nat} {g nm : ByteArray} {s x : EN} (h : EB w0 wr n xn g nm s x) :
    ∃ ab a c, ∀ W, Own [] wr W → W.cell? ⟨xn, 2, none⟩ = some (.bool s.online) ∧ W.cell? ⟨xn, 6, none⟩ = some (.bool s.pending) ∧ W.cell? ⟨xn, 8, none⟩ = some (.pointer (some ⟨ab, 0, none⟩)) ∧ W.cell? ⟨ab, 0, none⟩ = some (.slice a s.al.length c) := by
  obtain ⟨L, Y, h1, h2, h3, h4, h5, h6, h7⟩ := h
  obtain ⟨_, e1, e2, _, e4, _, _⟩ := h4.dev
  obtain ⟨a, c, hv, _⟩ := h2.tab.form
  refine ⟨Y.ab, a, c, fun W ho => ?_⟩
  obtain ⟨⟨_, _, c2, _, _, _, c6, _, c8, _⟩, _⟩ := ycells h2 W ho
  have hr := (h2.nil' ho).tab.row
  rw [hv, e4] at hr
  exact ⟨by rw [c2, e1], by rw [c6, e2], c8, cell_of_row W _ 0 _ _ _ hr⟩
theorem EB.view {w0 wr : World} {n xn : Nat} {g nm : ByteArray} {s x : EN} (h : EB w0 wr n xn g nm s x) :
    Calls Tryz.prog 12 #[.pointer (some ⟨n, 0, none⟩)] wr fun e w' => ∃ a cap va vc V, e = .returned (.agg #[.string g, .string nm, .bool s.online, .int .i64 (bdV s), .int .i64 (nextV s), .bool s.pending, .slice a s.items.length cap, .slice va s.dev.length vc]) ∧ VAt w' s.items s.dev a va V ∧ Own [] wr w' := by
  have hf := h.ei.1.few
  refine h.ei.viewB.mono ?_
  rintro e w' ⟨a, cap, va, vc, V, rfl, k1, k2⟩
  exact ⟨a, cap, va, vc, V, rfl, k1.at_ hf, k2⟩
theorem EB.xview {w0 wr : World} {n xn : Nat} {g nm : ByteArray} {s x : EN} (h : EB w0 wr n xn g nm s x) :
    Calls Tryz.prog 20 #[.pointer (some ⟨xn, 0, none⟩)] wr fun e w' => ∃ a cap va vc V, e = .returned (.agg #[.string g, .string nm, .bool s.online, .int .i64 (bdV s), .int .i64 (nextV s), .bool s.pending, .slice a s.items.length cap, .slice va s.dev.length vc]) ∧ VAt w' s.items s.dev a va V ∧ Own [] wr w' := by
  obtain ⟨L, Y, h1, h2, h3, h4, h5, h6, h7⟩ := h
  obtain ⟨e0, e1, e2, e3, e4, e5, e6⟩ := h4.dev
  refine (yview_any xn g nm Y x wr h2).mono ?_
  rintro e w' ⟨cap, va, vc, V, rfl, k1, k2⟩
  rw [e0, e1, e2, e3, e5, e6]
  rw [e0, e3] at k1
  exact ⟨Y.ia, cap, va, vc, V, rfl, k1, k2⟩
theorem EB.al {w0 wr : World} {n xn : Nat} {g nm : ByteArray} {s x : EN} (h : EB w0 wr n xn g nm s x) : Calls Tryz.prog 15 #[.pointer (some ⟨n, 0, none⟩)] wr fun e w' => e = .returned (.int .i64 s.al.length) ∧ wr = w' := h.ei.1.al
theorem EB.on {w0 wr : World} {n xn : Nat} {g nm : ByteArray} {s x : EN} (h : EB w0 wr n xn g nm s x) : Calls Tryz.prog 17 #[.pointer (some ⟨n, 0, none⟩)] wr fun e w' => e = .returned (.bool s.online) ∧ wr = w' := h.ei.1.on
theorem EB.pend {w0 wr : World} {n xn : Nat} {g nm : ByteArray} {s x : EN} (h : EB w0 wr n xn g nm s x) : Calls Tryz.prog 11 #[.pointer (some ⟨n, 0, none⟩)] wr fun e w' => e = .returned (.bool s.pending) ∧ wr = w' := h.ei.1.pending
end Go.Proofs.YtjfmbjgniajagaaGreatDoor

set_option linter.unusedSimpArgs false
set_option linter.unusedVariables false
namespace Go.Proofs.YtjfmbjgniajagaaGreatDoor
open Go.RowKit

set_option maxRecDepth 100000 in
set_option maxHeartbeats 16000000 in
theorem edgePlays_walk (g nm : ByteArray) (a : Option Addr) (len cap : Nat) (ms : Nat → EAct) (w : World) (_hg : g.size ≤ 140737488351232) (_hn : nm.size ≤ 140737488351232) (hA : EActs w a len ms) (hE : Errs w) :
    Calls Tryz.prog 7 #[.string g, .string nm, .slice a len cap] w fun e w' => e = .returned (.bool true) ∧ Below w.heap.size w w' := by
  have AW := Lib.hid (fun W => awake_any W)
  by_cases hgn : g.toList.isEmpty = true ∨ nm.toList.isEmpty = true
  · have cN := Lib.hid (enew_no g nm w hgn)
    have cX := Lib.hid (ynew_no g nm w hgn)
    clear hA hE hgn
    go_enter Tryz.func7, Tryz.ntmps7
    go_wp2_with (first
      | (go_at_call 9; (with_reducible refine cN.out.mono ?_); rintro e w1 ⟨rfl, rfl⟩)
      | (go_at_call 18; (with_reducible refine cX.out.mono ?_); rintro e w2 ⟨rfl, rfl⟩)
      | (go_at_call 13; (with_reducible refine (AW.out _).mono ?_); rintro e w7 ⟨rfl, hO7⟩; replace hO7 := Lib.hid hO7))
    go_ret
    exact ⟨rfl, hO7.out.below (Nat.le_refl _) (by simp)⟩
  · have hg : g.toList.isEmpty = false := by cases h : g.toList.isEmpty <;> simp_all
    have hn : nm.toList.isEmpty = false := by cases h : nm.toList.isEmpty <;> simp_all
    have NW := Lib.hid (EB.new g nm w hg hn)
    have hlen : len ≤ 9223372036854775807 := by have := hA.1; unfold maxLen at this; omega
    have hAt := Lib.hid fun i (hi : i < len) => eacts_all hA hi
    have SM := Lib.hid fun p W => small_any p W
    have TK := Lib.hid fun n xn wr s x (y : EAct) (h : EB w wr n xn g nm s x) (hP : PayAt w y.p) => edo_any w wr n xn g nm s x y h hP hE
    have hsame := Lib.hid fun (s : EN) (a4 va4 a8 va8 : Option Addr) (c1 vc1 c2 vc2 : Nat) (V1 V2 : List DV) W (h1 : VAt W s.items s.dev a4 va4 V1) (h2 : VAt W s.items s.dev a8 va8 V2) => esame_any g nm s.online s.pending (bdV s) (nextV s) s.items s.dev s.items.length s.dev.length rfl rfl a4 va4 a8 va8 c1 vc1 c2 vc2 V1 V2 W h1 h2
    clear hA hE hgn hg hn
    go_enter Tryz.func7, Tryz.ntmps7
    go_wp2_with (first
      | (go_at_call 9; (with_reducible refine NW.out.mono ?_); rintro e w1 ⟨n, rfl, hX⟩; replace hX := Lib.hid hX)
      | (go_at_call 18; (with_reducible refine hX.out.mono ?_); rintro e w2 ⟨xn, rfl, hN⟩; replace hN := Lib.hid hN))
    go_loopg [11] len (fun m sI wr => ∃ (i : Nat) (s x : EN), i ≤ len ∧ m = len - i ∧ sI = .int .i64 i ∧ Aside (EB w wr n xn g nm s x))
    case atStart => exact ⟨0, _, _, by omega, rfl, rfl, hN.out⟩
    case round =>
      obtain ⟨i, s, x, hi, rfl, rfl, hH⟩ := hrel
      by_cases hlt : i < len ∧ i < 40
      · obtain ⟨hlt, h40⟩ := hlt
        obtain ⟨b, o, rfl, hAl⟩ := hAt.out i hlt
        obtain ⟨hP, hca⟩ := hAl _ hH.own
        have hPw := (hAl _ (Own.refl _ _)).1
        have cT := fun W (ho : Own [] wr W) => TK.out n xn W s x (ms i) (hH.nil' ho) hPw
        have hcW := Lib.hid fun W (ho : Own [] w W) => (hAl W ho).2
        have hOw := Lib.hid hH.own
        obtain ⟨c0, c1, c2, c3, c4, c5, c6, c7⟩ := hca
        clear hAl hPw
        generalize ms i = y at *
        have cS := SM.out y.p
        by_cases hsm : y.p.M.length ≤ 40
        · have hd : decide (y.p.M.length ≤ 40) = true := by simpa using hsm
          rw [hd] at cS
          replace cS := Lib.hid fun W => cS W
          replace cT := Lib.hid cT
          clear hP hsm hH
          go_wp2_with (go_at_call 14; (with_reducible refine (cS.out _).mono ?_); rintro e w2 ⟨rfl, hO2⟩; have hcW2 := hcW.out _ (hOw.out.trans hO2); obtain ⟨d0, d1, d2, d3, d4, d5, d6, d7⟩ := hcW2; have cT2 := Lib.hid (cT.out _ hO2.drew); replace hO2 := Lib.hid hO2)
          have hSt := Lib.hid fun W (ho : Own [] wr W) => hcW.out W (hOw.out.trans ho)
          clear c0 c1 c2 c3 c4 c5 c6 c7 cT cS hd hOw
          refine wp_region_held_drew (S := fun W => W.cell? ⟨b, o + i * 8, none⟩ = some (.int .i64 y.k) ∧ W.cell? ⟨b, o + i * 8 + 1, none⟩ = some (.string y.dev) ∧ W.cell? ⟨b, o + i * 8 + 2, none⟩ = some (.int .u64 y.p.t) ∧ W.cell? ⟨b, o + i * 8 + 3, none⟩ = some (.bool y.p.h) ∧ W.cell? ⟨b, o + i * 8 + 4, none⟩ = some (.int .u64 y.p.s) ∧ W.cell? ⟨b, o + i * 8 + 5, none⟩ = some (.string y.p.u) ∧ W.cell? ⟨b, o + i * 8 + 6, none⟩ = some (.string y.p.b) ∧ W.cell? ⟨b, o + i * 8 + 7, none⟩ = some (.slice y.p.a y.p.M.length y.p.c)) (by kernel_rfl) (hSt.out _ hO2.out.drew) (fun hHeld => ?_)
          refine takeHL (i := 0) (v := ?v1) rfl (by kernel_rfl) (by kernel_rfl) (by kernel_rfl) (fun _ _ _ h => h) (Or.inl ⟨by rfl, ?hy1⟩) hHeld ?rs1
          case hy1 => (intro W hSw; (try dsimp only at hSw); obtain ⟨s0, s1, s2, s3, s4, s5, s6, s7⟩ := hSw; go_simp; try with_reducible rfl)
          try simp only [Act.put, List.setIfInBounds_toArray, List.set_cons_zero, List.set_cons_succ]
          refine takeHL (i := 1) (v := ?v2) rfl (by kernel_rfl) (by kernel_rfl) (by kernel_rfl) (fun _ _ _ h => h) (Or.inl ⟨by rfl, ?hy2⟩) hHeld ?rs2
          case hy2 => (intro W hSw; (try dsimp only at hSw); obtain ⟨s0, s1, s2, s3, s4, s5, s6, s7⟩ := hSw; go_simp; try with_reducible rfl)
          try simp only [Act.put, List.setIfInBounds_toArray, List.set_cons_zero, List.set_cons_succ]
          refine takeHL (i := 2) (v := ?v3) rfl (by kernel_rfl) (by kernel_rfl) (by kernel_rfl) (fun _ _ _ h => h) (Or.inl ⟨by rfl, ?hy3⟩) hHeld ?rs3
          case hy3 => (intro W hSw; (try dsimp only at hSw); obtain ⟨s0, s1, s2, s3, s4, s5, s6, s7⟩ := hSw; go_simp; try with_reducible rfl)
          try simp only [Act.put, List.setIfInBounds_toArray, List.set_cons_zero, List.set_cons_succ]
          refine takeHL (i := 3) (v := ?v4) rfl (by kernel_rfl) (by kernel_rfl) (by kernel_rfl) (fun _ _ _ h => h) (Or.inl ⟨by rfl, ?hy4⟩) hHeld ?rs4
          case hy4 => (intro W hSw; (try dsimp only at hSw); obtain ⟨s0, s1, s2, s3, s4, s5, s6, s7⟩ := hSw; go_simp; try with_reducible rfl)
          try simp only [Act.put, List.setIfInBounds_toArray, List.set_cons_zero, List.set_cons_succ]
          refine takeHL (i := 4) (v := ?v5) rfl (by kernel_rfl) (by kernel_rfl) (by kernel_rfl) (fun _ _ _ h => h) (Or.inl ⟨by rfl, ?hy5⟩) hHeld ?rs5
          case hy5 => (intro W hSw; (try dsimp only at hSw); obtain ⟨s0, s1, s2, s3, s4, s5, s6, s7⟩ := hSw; go_simp; try with_reducible rfl)
          try simp only [Act.put, List.setIfInBounds_toArray, List.set_cons_zero, List.set_cons_succ]
          refine takeHL (i := 5) (v := ?v6) rfl (by kernel_rfl) (by kernel_rfl) (by kernel_rfl) (fun _ _ _ h => h) (Or.inl ⟨by rfl, ?hy6⟩) hHeld ?rs6
          case hy6 => (intro W hSw; (try dsimp only at hSw); obtain ⟨s0, s1, s2, s3, s4, s5, s6, s7⟩ := hSw; go_simp; try with_reducible rfl)
          try simp only [Act.put, List.setIfInBounds_toArray, List.set_cons_zero, List.set_cons_succ]
          clear hHeld
          refine wpAnyH_ready (rs := [6]) (by kernel_rfl) (by simp) ?_
          refine consHL (i := 6) rfl (fun K hK => ?_) ?_
          · go_simp
            go_at_call 19; (with_reducible refine cT2.out.mono ?_); rintro e w3 ⟨rfl, s', x', hB3⟩; have kA := hcW.out _ hB3.own; have cV3 := Lib.hid hB3.view; replace hB3 := Lib.hid hB3; clear cT2 d0 d1 d2 d3 d4 d5 d6 d7
            try go_wp2_with fail
            refine hK.out _ _ (by exact kA) (fun hHeld => ?_)
            clear hK K
            try simp only [Act.put, List.setIfInBounds_toArray, List.set_cons_zero, List.set_cons_succ]
            refine takeHL (i := 7) (v := ?v7) rfl (by kernel_rfl) (by kernel_rfl) (by kernel_rfl) (fun _ _ _ h => h) (Or.inl ⟨by rfl, ?hy7⟩) hHeld ?rs7
            case hy7 => (intro W hSw; (try dsimp only at hSw); obtain ⟨s0, s1, s2, s3, s4, s5, s6, s7⟩ := hSw; go_simp; try with_reducible rfl)
            try simp only [Act.put, List.setIfInBounds_toArray, List.set_cons_zero, List.set_cons_succ]
            refine takeHL (i := 8) (v := ?v8) rfl (by kernel_rfl) (by kernel_rfl) (by kernel_rfl) (fun _ _ _ h => h) (Or.inl ⟨by rfl, ?hy8⟩) hHeld ?rs8
            case hy8 => (intro W hSw; (try dsimp only at hSw); obtain ⟨s0, s1, s2, s3, s4, s5, s6, s7⟩ := hSw; go_simp; try with_reducible rfl)
            try simp only [Act.put, List.setIfInBounds_toArray, List.set_cons_zero, List.set_cons_succ]
            refine takeHL (i := 9) (v := ?v9) rfl (by kernel_rfl) (by kernel_rfl) (by kernel_rfl) (fun _ _ _ h => h) (Or.inl ⟨by rfl, ?hy9⟩) hHeld ?rs9
            case hy9 => (intro W hSw; (try dsimp only at hSw); obtain ⟨s0, s1, s2, s3, s4, s5, s6, s7⟩ := hSw; go_simp; try with_reducible rfl)
            try simp only [Act.put, List.setIfInBounds_toArray, List.set_cons_zero, List.set_cons_succ]
            refine takeHL (i := 11) (v := ?v10) rfl (by kernel_rfl) (by kernel_rfl) (by kernel_rfl) (fun _ _ _ h => h) (Or.inl ⟨by rfl, ?hy10⟩) hHeld ?rs10
            case hy10 => (intro W hSw; (try dsimp only at hSw); obtain ⟨s0, s1, s2, s3, s4, s5, s6, s7⟩ := hSw; go_simp; try with_reducible rfl)
            try simp only [Act.put, List.setIfInBounds_toArray, List.set_cons_zero, List.set_cons_succ]
            clear hHeld
            refine wpAnyH_ready (rs := [10]) (by kernel_rfl) (by simp) ?_
            refine consHL (i := 10) rfl (fun K hK => ?_) ?_
            · go_simp
              go_at_call 12; (with_reducible refine cV3.out.mono ?_); rintro e w4 ⟨a4, cap4, va4, vc4, V4, rfl, hV4, hO4⟩; have hB4 := hB3.out.nil' hO4; have kB := hcW.out _ hB4.own; have cV4 := Lib.hid hB4.xview; replace hB4 := Lib.hid hB4; replace hV4 := Lib.hid hV4; clear kA cV3 hO4
              try go_wp2_with fail
              refine hK.out _ _ (by exact kB) (fun hHeld => ?_)
              clear hK K
              try simp only [Act.put, List.setIfInBounds_toArray, List.set_cons_zero, List.set_cons_succ]
              clear hHeld
              refine wpAnyH_ready (rs := [12]) (by kernel_rfl) (by simp) ?_
              refine consHL (i := 12) rfl (fun K hK => ?_) ?_
              · go_simp
                go_at_call 20; (with_reducible refine cV4.out.mono ?_); rintro e w5 ⟨a5, cap5, va5, vc5, V5, rfl, hV5, hO5⟩; have hB5 := hB4.out.nil' hO5; have kC := hcW.out _ hB5.own; have cS5 := Lib.hid (hsame.out s' a4 va4 a5 va5 cap4 vc4 cap5 vc5 V4 V5 _ (hV4.out.nil' hO5) hV5); replace hB5 := Lib.hid hB5; clear kB cV4 hO5 hV5 hV4
                try go_wp2_with fail
                refine hK.out _ _ (by exact kC) (fun hHeld => ?_)
                clear hK K
                try simp only [Act.put, List.setIfInBounds_toArray, List.set_cons_zero, List.set_cons_succ]
                clear hHeld
                refine wpAnyH_ready (rs := [13]) (by kernel_rfl) (by simp) ?_
                refine consHL (i := 13) rfl (fun K hK => ?_) ?_
                · go_simp
                  go_at_call 16; (with_reducible refine cS5.out.mono ?_); rintro e w6 ⟨rfl, hO6⟩; have hB6 := hB5.out.nil' hO6; have kD := hcW.out _ hB6.own; have cA6 := Lib.hid hB6.al; have cO6 := Lib.hid hB6.on; have cP6 := Lib.hid hB6.pend; obtain ⟨ab, a9, c9, hF⟩ := hB6.facts; obtain ⟨z2, z6, z8, z0⟩ := hF _ (Own.refl _ _); replace hB6 := Lib.hid hB6; clear kC cS5 hO6 hF
                  try go_wp2_with fail
                  refine hK.out _ _ (by exact kD) (fun hHeld => ?_)
                  clear hK K
                  try simp only [Act.put, List.setIfInBounds_toArray, List.set_cons_zero, List.set_cons_succ]
                  refine takeHL (i := 14) (v := ?v11) rfl (by kernel_rfl) (by kernel_rfl) (by kernel_rfl) (fun _ _ _ h => h) (Or.inl ⟨by rfl, ?hy11⟩) hHeld ?rs11
                  case hy11 => (intro W hSw; (try dsimp only at hSw); obtain ⟨s0, s1, s2, s3, s4, s5, s6, s7⟩ := hSw; go_simp; try with_reducible rfl)
                  try simp only [Act.put, List.setIfInBounds_toArray, List.set_cons_zero, List.set_cons_succ]
                  refine takeHL (i := 15) (v := ?v12) rfl (by kernel_rfl) (by kernel_rfl) (by kernel_rfl) (fun _ _ _ h => h) (Or.inl ⟨by rfl, ?hy12⟩) hHeld ?rs12
                  case hy12 => (intro W hSw; (try dsimp only at hSw); obtain ⟨s0, s1, s2, s3, s4, s5, s6, s7⟩ := hSw; go_simp; try with_reducible rfl)
                  try simp only [Act.put, List.setIfInBounds_toArray, List.set_cons_zero, List.set_cons_succ]
                  refine takeHL (i := 16) (v := ?v13) rfl (by kernel_rfl) (by kernel_rfl) (by kernel_rfl) (fun _ _ _ h => h) (Or.inl ⟨by rfl, ?hy13⟩) hHeld ?rs13
                  case hy13 => (intro W hSw; (try dsimp only at hSw); obtain ⟨s0, s1, s2, s3, s4, s5, s6, s7⟩ := hSw; go_simp; try with_reducible rfl)
                  try simp only [Act.put, List.setIfInBounds_toArray, List.set_cons_zero, List.set_cons_succ]
                  refine takeHL (i := 17) (v := ?v14) rfl (by kernel_rfl) (by kernel_rfl) (by kernel_rfl) (fun _ _ _ h => h) (Or.inl ⟨by rfl, ?hy14⟩) hHeld ?rs14
                  case hy14 => (intro W hSw; (try dsimp only at hSw); obtain ⟨s0, s1, s2, s3, s4, s5, s6, s7⟩ := hSw; go_simp; try with_reducible rfl)
                  try simp only [Act.put, List.setIfInBounds_toArray, List.set_cons_zero, List.set_cons_succ]
                  refine takeHL (i := 19) (v := ?v15) rfl (by kernel_rfl) (by kernel_rfl) (by kernel_rfl) (fun _ _ _ h => h) (Or.inl ⟨by rfl, ?hy15⟩) hHeld ?rs15
                  case hy15 => (intro W hSw; (try dsimp only at hSw); obtain ⟨s0, s1, s2, s3, s4, s5, s6, s7⟩ := hSw; go_simp; try with_reducible rfl)
                  try simp only [Act.put, List.setIfInBounds_toArray, List.set_cons_zero, List.set_cons_succ]
                  refine takeHL (i := 20) (v := ?v16) rfl (by kernel_rfl) (by kernel_rfl) (by kernel_rfl) (fun _ _ _ h => h) (Or.inl ⟨by rfl, ?hy16⟩) hHeld ?rs16
                  case hy16 => (intro W hSw; (try dsimp only at hSw); obtain ⟨s0, s1, s2, s3, s4, s5, s6, s7⟩ := hSw; go_simp; try with_reducible rfl)
                  try simp only [Act.put, List.setIfInBounds_toArray, List.set_cons_zero, List.set_cons_succ]
                  refine takeHL (i := 21) (v := ?v17) rfl (by kernel_rfl) (by kernel_rfl) (by kernel_rfl) (fun _ _ _ h => h) (Or.inl ⟨by rfl, ?hy17⟩) hHeld ?rs17
                  case hy17 => (intro W hSw; (try dsimp only at hSw); obtain ⟨s0, s1, s2, s3, s4, s5, s6, s7⟩ := hSw; go_simp; try with_reducible rfl)
                  try simp only [Act.put, List.setIfInBounds_toArray, List.set_cons_zero, List.set_cons_succ]
                  clear hHeld
                  refine wpAnyH_ready (rs := [18, 22]) (by kernel_rfl) (by simp) ?_
                  refine consHL (i := 18) rfl (fun K hK => ?_) ?_
                  · go_simp
                    go_at_call 15; (with_reducible refine cA6.out.mono ?_); rintro e w7 ⟨rfl, rfl⟩
                    try go_wp2_with fail
                    refine hK.out _ _ (by exact kD) (fun hHeld => ?_)
                    clear hK K
                    try simp only [Act.put, List.setIfInBounds_toArray, List.set_cons_zero, List.set_cons_succ]
                    clear hHeld
                    refine wpAnyH_ready (rs := [22]) (by kernel_rfl) (by simp) ?_
                    refine consHL (i := 22) rfl (fun K hK => ?_) ?_
                    · go_simp
                      refine hK.out _ _ (by exact kD) (fun hHeld => ?_)
                      clear hK K
                      try simp only [Act.put, List.setIfInBounds_toArray, List.set_cons_zero, List.set_cons_succ]
                      refine takeHL (i := 23) (v := ?v18) rfl (by kernel_rfl) (by kernel_rfl) (by kernel_rfl) (fun _ _ _ h => h) (Or.inl ⟨by rfl, ?hy18⟩) hHeld ?rs18
                      case hy18 => (intro W hSw; (try dsimp only at hSw); obtain ⟨s0, s1, s2, s3, s4, s5, s6, s7⟩ := hSw; go_simp; try with_reducible rfl)
                      try simp only [Act.put, List.setIfInBounds_toArray, List.set_cons_zero, List.set_cons_succ]
                      refine takeHL (i := 24) (v := ?v19) rfl (by kernel_rfl) (by kernel_rfl) (by kernel_rfl) (fun _ _ _ h => h) (Or.inl ⟨by rfl, ?hy19⟩) hHeld ?rs19
                      case hy19 => (intro W hSw; (try dsimp only at hSw); obtain ⟨s0, s1, s2, s3, s4, s5, s6, s7⟩ := hSw; go_simp; try with_reducible rfl)
                      try simp only [Act.put, List.setIfInBounds_toArray, List.set_cons_zero, List.set_cons_succ]
                      clear hHeld
                      refine wpAnyH_ready (rs := [25]) (by kernel_rfl) (by simp) ?_
                      refine consHL (i := 25) rfl (fun K hK => ?_) ?_
                      · go_simp
                        refine hK.out _ _ (by exact kD) (fun hHeld => ?_)
                        clear hK K
                        try simp only [Act.put, List.setIfInBounds_toArray, List.set_cons_zero, List.set_cons_succ]
                        refine takeHL (i := 26) (v := ?v20) rfl (by kernel_rfl) (by kernel_rfl) (by kernel_rfl) (fun _ _ _ h => h) (Or.inl ⟨by rfl, ?hy20⟩) hHeld ?rs20
                        case hy20 => (intro W hSw; (try dsimp only at hSw); obtain ⟨s0, s1, s2, s3, s4, s5, s6, s7⟩ := hSw; go_simp; try with_reducible rfl)
                        try simp only [Act.put, List.setIfInBounds_toArray, List.set_cons_zero, List.set_cons_succ]
                        refine takeHL (i := 27) (v := ?v21) rfl (by kernel_rfl) (by kernel_rfl) (by kernel_rfl) (fun _ _ _ h => h) (Or.inl ⟨by rfl, ?hy21⟩) hHeld ?rs21
                        case hy21 => (intro W hSw; (try dsimp only at hSw); obtain ⟨s0, s1, s2, s3, s4, s5, s6, s7⟩ := hSw; go_simp; try with_reducible rfl)
                        try simp only [Act.put, List.setIfInBounds_toArray, List.set_cons_zero, List.set_cons_succ]
                        refine takeHL (i := 28) (v := ?v22) rfl (by kernel_rfl) (by kernel_rfl) (by kernel_rfl) (fun _ _ _ h => h) (Or.inl ⟨by rfl, ?hy22⟩) hHeld ?rs22
                        case hy22 => (intro W hSw; (try dsimp only at hSw); obtain ⟨s0, s1, s2, s3, s4, s5, s6, s7⟩ := hSw; go_simp; try with_reducible rfl)
                        try simp only [Act.put, List.setIfInBounds_toArray, List.set_cons_zero, List.set_cons_succ]
                        refine takeHL (i := 29) (v := ?v23) rfl (by kernel_rfl) (by kernel_rfl) (by kernel_rfl) (fun _ _ _ h => h) (Or.inl ⟨by rfl, ?hy23⟩) hHeld ?rs23
                        case hy23 => (intro W hSw; (try dsimp only at hSw); obtain ⟨s0, s1, s2, s3, s4, s5, s6, s7⟩ := hSw; go_simp; try with_reducible rfl)
                        try simp only [Act.put, List.setIfInBounds_toArray, List.set_cons_zero, List.set_cons_succ]
                        refine takeHL (i := 30) (v := ?v24) rfl (by kernel_rfl) (by kernel_rfl) (by kernel_rfl) (fun _ _ _ h => h) (Or.inl ⟨by rfl, ?hy24⟩) hHeld ?rs24
                        case hy24 => (intro W hSw; (try dsimp only at hSw); obtain ⟨s0, s1, s2, s3, s4, s5, s6, s7⟩ := hSw; go_simp; try with_reducible rfl)
                        try simp only [Act.put, List.setIfInBounds_toArray, List.set_cons_zero, List.set_cons_succ]
                        refine takeHL (i := 32) (v := ?v25) rfl (by kernel_rfl) (by kernel_rfl) (by kernel_rfl) (fun _ _ _ h => h) (Or.inl ⟨by rfl, ?hy25⟩) hHeld ?rs25
                        case hy25 => (intro W hSw; (try dsimp only at hSw); obtain ⟨s0, s1, s2, s3, s4, s5, s6, s7⟩ := hSw; go_simp; try with_reducible rfl)
                        try simp only [Act.put, List.setIfInBounds_toArray, List.set_cons_zero, List.set_cons_succ]
                        refine takeHL (i := 33) (v := ?v26) rfl (by kernel_rfl) (by kernel_rfl) (by kernel_rfl) (fun _ _ _ h => h) (Or.inl ⟨by rfl, ?hy26⟩) hHeld ?rs26
                        case hy26 => (intro W hSw; (try dsimp only at hSw); obtain ⟨s0, s1, s2, s3, s4, s5, s6, s7⟩ := hSw; go_simp; try with_reducible rfl)
                        try simp only [Act.put, List.setIfInBounds_toArray, List.set_cons_zero, List.set_cons_succ]
                        refine takeHL (i := 34) (v := ?v27) rfl (by kernel_rfl) (by kernel_rfl) (by kernel_rfl) (fun _ _ _ h => h) (Or.inl ⟨by rfl, ?hy27⟩) hHeld ?rs27
                        case hy27 => (intro W hSw; (try dsimp only at hSw); obtain ⟨s0, s1, s2, s3, s4, s5, s6, s7⟩ := hSw; go_simp; try with_reducible rfl)
                        try simp only [Act.put, List.setIfInBounds_toArray, List.set_cons_zero, List.set_cons_succ]
                        clear hHeld
                        refine wpAnyH_ready (rs := [31, 35]) (by kernel_rfl) (by simp) ?_
                        refine consHL (i := 31) rfl (fun K hK => ?_) ?_
                        · go_simp
                          go_at_call 17; (with_reducible refine cO6.out.mono ?_); rintro e w7 ⟨rfl, rfl⟩
                          try go_wp2_with fail
                          refine hK.out _ _ (by exact kD) (fun hHeld => ?_)
                          clear hK K
                          try simp only [Act.put, List.setIfInBounds_toArray, List.set_cons_zero, List.set_cons_succ]
                          clear hHeld
                          refine wpAnyH_ready (rs := [35]) (by kernel_rfl) (by simp) ?_
                          refine consHL (i := 35) rfl (fun K hK => ?_) ?_
                          · go_simp
                            refine hK.out _ _ (by exact kD) (fun hHeld => ?_)
                            clear hK K
                            try simp only [Act.put, List.setIfInBounds_toArray, List.set_cons_zero, List.set_cons_succ]
                            refine takeHL (i := 36) (v := ?v28) rfl (by kernel_rfl) (by kernel_rfl) (by kernel_rfl) (fun _ _ _ h => h) (Or.inl ⟨by rfl, ?hy28⟩) hHeld ?rs28
                            case hy28 => (intro W hSw; (try dsimp only at hSw); obtain ⟨s0, s1, s2, s3, s4, s5, s6, s7⟩ := hSw; go_simp; try with_reducible rfl)
                            try simp only [Act.put, List.setIfInBounds_toArray, List.set_cons_zero, List.set_cons_succ]
                            refine takeHL (i := 37) (v := ?v29) rfl (by kernel_rfl) (by kernel_rfl) (by kernel_rfl) (fun _ _ _ h => h) (Or.inl ⟨by rfl, ?hy29⟩) hHeld ?rs29
                            case hy29 => (intro W hSw; (try dsimp only at hSw); obtain ⟨s0, s1, s2, s3, s4, s5, s6, s7⟩ := hSw; go_simp; try with_reducible rfl)
                            try simp only [Act.put, List.setIfInBounds_toArray, List.set_cons_zero, List.set_cons_succ]
                            refine takeHL (i := 38) (v := ?v30) rfl (by kernel_rfl) (by kernel_rfl) (by kernel_rfl) (fun _ _ _ h => h) (Or.inl ⟨by rfl, ?hy30⟩) hHeld ?rs30
                            case hy30 => (intro W hSw; (try dsimp only at hSw); obtain ⟨s0, s1, s2, s3, s4, s5, s6, s7⟩ := hSw; go_simp; try with_reducible rfl)
                            try simp only [Act.put, List.setIfInBounds_toArray, List.set_cons_zero, List.set_cons_succ]
                            refine takeHL (i := 39) (v := ?v31) rfl (by kernel_rfl) (by kernel_rfl) (by kernel_rfl) (fun _ _ _ h => h) (Or.inl ⟨by rfl, ?hy31⟩) hHeld ?rs31
                            case hy31 => (intro W hSw; (try dsimp only at hSw); obtain ⟨s0, s1, s2, s3, s4, s5, s6, s7⟩ := hSw; go_simp; try with_reducible rfl)
                            try simp only [Act.put, List.setIfInBounds_toArray, List.set_cons_zero, List.set_cons_succ]
                            refine takeHL (i := 41) (v := ?v32) rfl (by kernel_rfl) (by kernel_rfl) (by kernel_rfl) (fun _ _ _ h => h) (Or.inl ⟨by rfl, ?hy32⟩) hHeld ?rs32
                            case hy32 => (intro W hSw; (try dsimp only at hSw); obtain ⟨s0, s1, s2, s3, s4, s5, s6, s7⟩ := hSw; go_simp; try with_reducible rfl)
                            try simp only [Act.put, List.setIfInBounds_toArray, List.set_cons_zero, List.set_cons_succ]
                            refine takeHL (i := 42) (v := ?v33) rfl (by kernel_rfl) (by kernel_rfl) (by kernel_rfl) (fun _ _ _ h => h) (Or.inl ⟨by rfl, ?hy33⟩) hHeld ?rs33
                            case hy33 => (intro W hSw; (try dsimp only at hSw); obtain ⟨s0, s1, s2, s3, s4, s5, s6, s7⟩ := hSw; go_simp; try with_reducible rfl)
                            try simp only [Act.put, List.setIfInBounds_toArray, List.set_cons_zero, List.set_cons_succ]
                            refine takeHL (i := 43) (v := ?v34) rfl (by kernel_rfl) (by kernel_rfl) (by kernel_rfl) (fun _ _ _ h => h) (Or.inl ⟨by rfl, ?hy34⟩) hHeld ?rs34
                            case hy34 => (intro W hSw; (try dsimp only at hSw); obtain ⟨s0, s1, s2, s3, s4, s5, s6, s7⟩ := hSw; go_simp; try with_reducible rfl)
                            try simp only [Act.put, List.setIfInBounds_toArray, List.set_cons_zero, List.set_cons_succ]
                            clear hHeld
                            refine wpAnyH_ready (rs := [40, 44]) (by kernel_rfl) (by simp) ?_
                            refine consHL (i := 40) rfl (fun K hK => ?_) ?_
                            · go_simp
                              go_at_call 11; (with_reducible refine cP6.out.mono ?_); rintro e w7 ⟨rfl, rfl⟩
                              try go_wp2_with fail
                              refine hK.out _ _ (by exact kD) (fun hHeld => ?_)
                              clear hK K
                              try simp only [Act.put, List.setIfInBounds_toArray, List.set_cons_zero, List.set_cons_succ]
                              clear hHeld
                              refine wpAnyH_ready (rs := [44]) (by kernel_rfl) (by simp) ?_
                              refine consHL (i := 44) rfl (fun K hK => ?_) ?_
                              · go_simp
                                refine hK.out _ _ (by exact kD) (fun hHeld => ?_)
                                clear hK K
                                try simp only [Act.put, List.setIfInBounds_toArray, List.set_cons_zero, List.set_cons_succ]
                                refine takeHL (i := 45) (v := ?v35) rfl (by kernel_rfl) (by kernel_rfl) (by kernel_rfl) (fun _ _ _ h => h) (Or.inl ⟨by rfl, ?hy35⟩) hHeld ?rs35
                                case hy35 => (intro W hSw; (try dsimp only at hSw); obtain ⟨s0, s1, s2, s3, s4, s5, s6, s7⟩ := hSw; go_simp; try with_reducible rfl)
                                try simp only [Act.put, List.setIfInBounds_toArray, List.set_cons_zero, List.set_cons_succ]
                                refine takeHL (i := 46) (v := ?v36) rfl (by kernel_rfl) (by kernel_rfl) (by kernel_rfl) (fun _ _ _ h => h) (Or.inl ⟨by rfl, ?hy36⟩) hHeld ?rs36
                                case hy36 => (intro W hSw; (try dsimp only at hSw); obtain ⟨s0, s1, s2, s3, s4, s5, s6, s7⟩ := hSw; go_simp; try with_reducible rfl)
                                try simp only [Act.put, List.setIfInBounds_toArray, List.set_cons_zero, List.set_cons_succ]
                                refine wpAnyH_done (by kernel_rfl) ?_ _
                                go_wp2_with fail
                                go_roundg (len - (i + 1))
                                case rel => exact ⟨i + 1, s', x', by omega, rfl, by go_num, hB6.out⟩
                                case measure => omega
                              exact AllReadyH.nil
                            refine consHL (i := 44) rfl (fun K hK => ?_) ?_
                            · go_simp
                              refine hK.out _ _ (by exact kD) (fun hHeld => ?_)
                              clear hK K
                              try simp only [Act.put, List.setIfInBounds_toArray, List.set_cons_zero, List.set_cons_succ]
                              clear hHeld
                              refine wpAnyH_ready (rs := [40]) (by kernel_rfl) (by simp) ?_
                              refine consHL (i := 40) rfl (fun K hK => ?_) ?_
                              · go_simp
                                go_at_call 11; (with_reducible refine cP6.out.mono ?_); rintro e w7 ⟨rfl, rfl⟩
                                try go_wp2_with fail
                                refine hK.out _ _ (by exact kD) (fun hHeld => ?_)
                                clear hK K
                                try simp only [Act.put, List.setIfInBounds_toArray, List.set_cons_zero, List.set_cons_succ]
                                refine takeHL (i := 45) (v := ?v37) rfl (by kernel_rfl) (by kernel_rfl) (by kernel_rfl) (fun _ _ _ h => h) (Or.inl ⟨by rfl, ?hy37⟩) hHeld ?rs37
                                case hy37 => (intro W hSw; (try dsimp only at hSw); obtain ⟨s0, s1, s2, s3, s4, s5, s6, s7⟩ := hSw; go_simp; try with_reducible rfl)
                                try simp only [Act.put, List.setIfInBounds_toArray, List.set_cons_zero, List.set_cons_succ]
                                refine takeHL (i := 46) (v := ?v38) rfl (by kernel_rfl) (by kernel_rfl) (by kernel_rfl) (fun _ _ _ h => h) (Or.inl ⟨by rfl, ?hy38⟩) hHeld ?rs38
                                case hy38 => (intro W hSw; (try dsimp only at hSw); obtain ⟨s0, s1, s2, s3, s4, s5, s6, s7⟩ := hSw; go_simp; try with_reducible rfl)
                                try simp only [Act.put, List.setIfInBounds_toArray, List.set_cons_zero, List.set_cons_succ]
                                refine wpAnyH_done (by kernel_rfl) ?_ _
                                go_wp2_with fail
                                go_roundg (len - (i + 1))
                                case rel => exact ⟨i + 1, s', x', by omega, rfl, by go_num, hB6.out⟩
                                case measure => omega
                              exact AllReadyH.nil
                            exact AllReadyH.nil
                          exact AllReadyH.nil
                        refine consHL (i := 35) rfl (fun K hK => ?_) ?_
                        · go_simp
                          refine hK.out _ _ (by exact kD) (fun hHeld => ?_)
                          clear hK K
                          try simp only [Act.put, List.setIfInBounds_toArray, List.set_cons_zero, List.set_cons_succ]
                          clear hHeld
                          refine wpAnyH_ready (rs := [31]) (by kernel_rfl) (by simp) ?_
                          refine consHL (i := 31) rfl (fun K hK => ?_) ?_
                          · go_simp
                            go_at_call 17; (with_reducible refine cO6.out.mono ?_); rintro e w7 ⟨rfl, rfl⟩
                            try go_wp2_with fail
                            refine hK.out _ _ (by exact kD) (fun hHeld => ?_)
                            clear hK K
                            try simp only [Act.put, List.setIfInBounds_toArray, List.set_cons_zero, List.set_cons_succ]
                            refine takeHL (i := 36) (v := ?v39) rfl (by kernel_rfl) (by kernel_rfl) (by kernel_rfl) (fun _ _ _ h => h) (Or.inl ⟨by rfl, ?hy39⟩) hHeld ?rs39
                            case hy39 => (intro W hSw; (try dsimp only at hSw); obtain ⟨s0, s1, s2, s3, s4, s5, s6, s7⟩ := hSw; go_simp; try with_reducible rfl)
                            try simp only [Act.put, List.setIfInBounds_toArray, List.set_cons_zero, List.set_cons_succ]
                            refine takeHL (i := 37) (v := ?v40) rfl (by kernel_rfl) (by kernel_rfl) (by kernel_rfl) (fun _ _ _ h => h) (Or.inl ⟨by rfl, ?hy40⟩) hHeld ?rs40
                            case hy40 => (intro W hSw; (try dsimp only at hSw); obtain ⟨s0, s1, s2, s3, s4, s5, s6, s7⟩ := hSw; go_simp; try with_reducible rfl)
                            try simp only [Act.put, List.setIfInBounds_toArray, List.set_cons_zero, List.set_cons_succ]
                            refine takeHL (i := 38) (v := ?v41) rfl (by kernel_rfl) (by kernel_rfl) (by kernel_rfl) (fun _ _ _ h => h) (Or.inl ⟨by rfl, ?hy41⟩) hHeld ?rs41
                            case hy41 => (intro W hSw; (try dsimp only at hSw); obtain ⟨s0, s1, s2, s3, s4, s5, s6, s7⟩ := hSw; go_simp; try with_reducible rfl)
                            try simp only [Act.put, List.setIfInBounds_toArray, List.set_cons_zero, List.set_cons_succ]
                            refine takeHL (i := 39) (v := ?v42) rfl (by kernel_rfl) (by kernel_rfl) (by kernel_rfl) (fun _ _ _ h => h) (Or.inl ⟨by rfl, ?hy42⟩) hHeld ?rs42
                            case hy42 => (intro W hSw; (try dsimp only at hSw); obtain ⟨s0, s1, s2, s3, s4, s5, s6, s7⟩ := hSw; go_simp; try with_reducible rfl)
                            try simp only [Act.put, List.setIfInBounds_toArray, List.set_cons_zero, List.set_cons_succ]
                            refine takeHL (i := 41) (v := ?v43) rfl (by kernel_rfl) (by kernel_rfl) (by kernel_rfl) (fun _ _ _ h => h) (Or.inl ⟨by rfl, ?hy43⟩) hHeld ?rs43
                            case hy43 => (intro W hSw; (try dsimp only at hSw); obtain ⟨s0, s1, s2, s3, s4, s5, s6, s7⟩ := hSw; go_simp; try with_reducible rfl)
                            try simp only [Act.put, List.setIfInBounds_toArray, List.set_cons_zero, List.set_cons_succ]
                            refine takeHL (i := 42) (v := ?v44) rfl (by kernel_rfl) (by kernel_rfl) (by kernel_rfl) (fun _ _ _ h => h) (Or.inl ⟨by rfl, ?hy44⟩) hHeld ?rs44
                            case hy44 => (intro W hSw; (try dsimp only at hSw); obtain ⟨s0, s1, s2, s3, s4, s5, s6, s7⟩ := hSw; go_simp; try with_reducible rfl)
                            try simp only [Act.put, List.setIfInBounds_toArray, List.set_cons_zero, List.set_cons_succ]
                            refine takeHL (i := 43) (v := ?v45) rfl (by kernel_rfl) (by kernel_rfl) (by kernel_rfl) (fun _ _ _ h => h) (Or.inl ⟨by rfl, ?hy45⟩) hHeld ?rs45
                            case hy45 => (intro W hSw; (try dsimp only at hSw); obtain ⟨s0, s1, s2, s3, s4, s5, s6, s7⟩ := hSw; go_simp; try with_reducible rfl)
                            try simp only [Act.put, List.setIfInBounds_toArray, List.set_cons_zero, List.set_cons_succ]
                            clear hHeld
                            refine wpAnyH_ready (rs := [40, 44]) (by kernel_rfl) (by simp) ?_
                            refine consHL (i := 40) rfl (fun K hK => ?_) ?_
                            · go_simp
                              go_at_call 11; (with_reducible refine cP6.out.mono ?_); rintro e w7 ⟨rfl, rfl⟩
                              try go_wp2_with fail
                              refine hK.out _ _ (by exact kD) (fun hHeld => ?_)
                              clear hK K
                              try simp only [Act.put, List.setIfInBounds_toArray, List.set_cons_zero, List.set_cons_succ]
                              clear hHeld
                              refine wpAnyH_ready (rs := [44]) (by kernel_rfl) (by simp) ?_
                              refine consHL (i := 44) rfl (fun K hK => ?_) ?_
                              · go_simp
                                refine hK.out _ _ (by exact kD) (fun hHeld => ?_)
                                clear hK K
                                try simp only [Act.put, List.setIfInBounds_toArray, List.set_cons_zero, List.set_cons_succ]
                                refine takeHL (i := 45) (v := ?v46) rfl (by kernel_rfl) (by kernel_rfl) (by kernel_rfl) (fun _ _ _ h => h) (Or.inl ⟨by rfl, ?hy46⟩) hHeld ?rs46
                                case hy46 => (intro W hSw; (try dsimp only at hSw); obtain ⟨s0, s1, s2, s3, s4, s5, s6, s7⟩ := hSw; go_simp; try with_reducible rfl)
                                try simp only [Act.put, List.setIfInBounds_toArray, List.set_cons_zero, List.set_cons_succ]
                                refine takeHL (i := 46) (v := ?v47) rfl (by kernel_rfl) (by kernel_rfl) (by kernel_rfl) (fun _ _ _ h => h) (Or.inl ⟨by rfl, ?hy47⟩) hHeld ?rs47
                                case hy47 => (intro W hSw; (try dsimp only at hSw); obtain ⟨s0, s1, s2, s3, s4, s5, s6, s7⟩ := hSw; go_simp; try with_reducible rfl)
                                try simp only [Act.put, List.setIfInBounds_toArray, List.set_cons_zero, List.set_cons_succ]
                                refine wpAnyH_done (by kernel_rfl) ?_ _
                                go_wp2_with fail
                                go_roundg (len - (i + 1))
                                case rel => exact ⟨i + 1, s', x', by omega, rfl, by go_num, hB6.out⟩
                                case measure => omega
                              exact AllReadyH.nil
                            refine consHL (i := 44) rfl (fun K hK => ?_) ?_
                            · go_simp
                              refine hK.out _ _ (by exact kD) (fun hHeld => ?_)
                              clear hK K
                              try simp only [Act.put, List.setIfInBounds_toArray, List.set_cons_zero, List.set_cons_succ]
                              clear hHeld
                              refine wpAnyH_ready (rs := [40]) (by kernel_rfl) (by simp) ?_
                              refine consHL (i := 40) rfl (fun K hK => ?_) ?_
                              · go_simp
                                go_at_call 11; (with_reducible refine cP6.out.mono ?_); rintro e w7 ⟨rfl, rfl⟩
                                try go_wp2_with fail
                                refine hK.out _ _ (by exact kD) (fun hHeld => ?_)
                                clear hK K
                                try simp only [Act.put, List.setIfInBounds_toArray, List.set_cons_zero, List.set_cons_succ]
                                refine takeHL (i := 45) (v := ?v48) rfl (by kernel_rfl) (by kernel_rfl) (by kernel_rfl) (fun _ _ _ h => h) (Or.inl ⟨by rfl, ?hy48⟩) hHeld ?rs48
                                case hy48 => (intro W hSw; (try dsimp only at hSw); obtain ⟨s0, s1, s2, s3, s4, s5, s6, s7⟩ := hSw; go_simp; try with_reducible rfl)
                                try simp only [Act.put, List.setIfInBounds_toArray, List.set_cons_zero, List.set_cons_succ]
                                refine takeHL (i := 46) (v := ?v49) rfl (by kernel_rfl) (by kernel_rfl) (by kernel_rfl) (fun _ _ _ h => h) (Or.inl ⟨by rfl, ?hy49⟩) hHeld ?rs49
                                case hy49 => (intro W hSw; (try dsimp only at hSw); obtain ⟨s0, s1, s2, s3, s4, s5, s6, s7⟩ := hSw; go_simp; try with_reducible rfl)
                                try simp only [Act.put, List.setIfInBounds_toArray, List.set_cons_zero, List.set_cons_succ]
                                refine wpAnyH_done (by kernel_rfl) ?_ _
                                go_wp2_with fail
                                go_roundg (len - (i + 1))
                                case rel => exact ⟨i + 1, s', x', by omega, rfl, by go_num, hB6.out⟩
                                case measure => omega
                              exact AllReadyH.nil
                            exact AllReadyH.nil
                          exact AllReadyH.nil
                        exact AllReadyH.nil
                      exact AllReadyH.nil
                    exact AllReadyH.nil
                  refine consHL (i := 22) rfl (fun K hK => ?_) ?_
                  · go_simp
                    refine hK.out _ _ (by exact kD) (fun hHeld => ?_)
                    clear hK K
                    try simp only [Act.put, List.setIfInBounds_toArray, List.set_cons_zero, List.set_cons_succ]
                    refine takeHL (i := 23) (v := ?v50) rfl (by kernel_rfl) (by kernel_rfl) (by kernel_rfl) (fun _ _ _ h => h) (Or.inl ⟨by rfl, ?hy50⟩) hHeld ?rs50
                    case hy50 => (intro W hSw; (try dsimp only at hSw); obtain ⟨s0, s1, s2, s3, s4, s5, s6, s7⟩ := hSw; go_simp; try with_reducible rfl)
                    try simp only [Act.put, List.setIfInBounds_toArray, List.set_cons_zero, List.set_cons_succ]
                    refine takeHL (i := 24) (v := ?v51) rfl (by kernel_rfl) (by kernel_rfl) (by kernel_rfl) (fun _ _ _ h => h) (Or.inl ⟨by rfl, ?hy51⟩) hHeld ?rs51
                    case hy51 => (intro W hSw; (try dsimp only at hSw); obtain ⟨s0, s1, s2, s3, s4, s5, s6, s7⟩ := hSw; go_simp; try with_reducible rfl)
                    try simp only [Act.put, List.setIfInBounds_toArray, List.set_cons_zero, List.set_cons_succ]
                    clear hHeld
                    refine wpAnyH_ready (rs := [18, 25]) (by kernel_rfl) (by simp) ?_
                    refine consHL (i := 18) rfl (fun K hK => ?_) ?_
                    · go_simp
                      go_at_call 15; (with_reducible refine cA6.out.mono ?_); rintro e w7 ⟨rfl, rfl⟩
                      try go_wp2_with fail
                      refine hK.out _ _ (by exact kD) (fun hHeld => ?_)
                      clear hK K
                      try simp only [Act.put, List.setIfInBounds_toArray, List.set_cons_zero, List.set_cons_succ]
                      clear hHeld
                      refine wpAnyH_ready (rs := [25]) (by kernel_rfl) (by simp) ?_
                      refine consHL (i := 25) rfl (fun K hK => ?_) ?_
                      · go_simp
                        refine hK.out _ _ (by exact kD) (fun hHeld => ?_)
                        clear hK K
                        try simp only [Act.put, List.setIfInBounds_toArray, List.set_cons_zero, List.set_cons_succ]
                        refine takeHL (i := 26) (v := ?v52) rfl (by kernel_rfl) (by kernel_rfl) (by kernel_rfl) (fun _ _ _ h => h) (Or.inl ⟨by rfl, ?hy52⟩) hHeld ?rs52
                        case hy52 => (intro W hSw; (try dsimp only at hSw); obtain ⟨s0, s1, s2, s3, s4, s5, s6, s7⟩ := hSw; go_simp; try with_reducible rfl)
                        try simp only [Act.put, List.setIfInBounds_toArray, List.set_cons_zero, List.set_cons_succ]
                        refine takeHL (i := 27) (v := ?v53) rfl (by kernel_rfl) (by kernel_rfl) (by kernel_rfl) (fun _ _ _ h => h) (Or.inl ⟨by rfl, ?hy53⟩) hHeld ?rs53
                        case hy53 => (intro W hSw; (try dsimp only at hSw); obtain ⟨s0, s1, s2, s3, s4, s5, s6, s7⟩ := hSw; go_simp; try with_reducible rfl)
                        try simp only [Act.put, List.setIfInBounds_toArray, List.set_cons_zero, List.set_cons_succ]
                        refine takeHL (i := 28) (v := ?v54) rfl (by kernel_rfl) (by kernel_rfl) (by kernel_rfl) (fun _ _ _ h => h) (Or.inl ⟨by rfl, ?hy54⟩) hHeld ?rs54
                        case hy54 => (intro W hSw; (try dsimp only at hSw); obtain ⟨s0, s1, s2, s3, s4, s5, s6, s7⟩ := hSw; go_simp; try with_reducible rfl)
                        try simp only [Act.put, List.setIfInBounds_toArray, List.set_cons_zero, List.set_cons_succ]
                        refine takeHL (i := 29) (v := ?v55) rfl (by kernel_rfl) (by kernel_rfl) (by kernel_rfl) (fun _ _ _ h => h) (Or.inl ⟨by rfl, ?hy55⟩) hHeld ?rs55
                        case hy55 => (intro W hSw; (try dsimp only at hSw); obtain ⟨s0, s1, s2, s3, s4, s5, s6, s7⟩ := hSw; go_simp; try with_reducible rfl)
                        try simp only [Act.put, List.setIfInBounds_toArray, List.set_cons_zero, List.set_cons_succ]
                        refine takeHL (i := 30) (v := ?v56) rfl (by kernel_rfl) (by kernel_rfl) (by kernel_rfl) (fun _ _ _ h => h) (Or.inl ⟨by rfl, ?hy56⟩) hHeld ?rs56
                        case hy56 => (intro W hSw; (try dsimp only at hSw); obtain ⟨s0, s1, s2, s3, s4, s5, s6, s7⟩ := hSw; go_simp; try with_reducible rfl)
                        try simp only [Act.put, List.setIfInBounds_toArray, List.set_cons_zero, List.set_cons_succ]
                        refine takeHL (i := 32) (v := ?v57) rfl (by kernel_rfl) (by kernel_rfl) (by kernel_rfl) (fun _ _ _ h => h) (Or.inl ⟨by rfl, ?hy57⟩) hHeld ?rs57
                        case hy57 => (intro W hSw; (try dsimp only at hSw); obtain ⟨s0, s1, s2, s3, s4, s5, s6, s7⟩ := hSw; go_simp; try with_reducible rfl)
                        try simp only [Act.put, List.setIfInBounds_toArray, List.set_cons_zero, List.set_cons_succ]
                        refine takeHL (i := 33) (v := ?v58) rfl (by kernel_rfl) (by kernel_rfl) (by kernel_rfl) (fun _ _ _ h => h) (Or.inl ⟨by rfl, ?hy58⟩) hHeld ?rs58
                        case hy58 => (intro W hSw; (try dsimp only at hSw); obtain ⟨s0, s1, s2, s3, s4, s5, s6, s7⟩ := hSw; go_simp; try with_reducible rfl)
                        try simp only [Act.put, List.setIfInBounds_toArray, List.set_cons_zero, List.set_cons_succ]
                        refine takeHL (i := 34) (v := ?v59) rfl (by kernel_rfl) (by kernel_rfl) (by kernel_rfl) (fun _ _ _ h => h) (Or.inl ⟨by rfl, ?hy59⟩) hHeld ?rs59
                        case hy59 => (intro W hSw; (try dsimp only at hSw); obtain ⟨s0, s1, s2, s3, s4, s5, s6, s7⟩ := hSw; go_simp; try with_reducible rfl)
                        try simp only [Act.put, List.setIfInBounds_toArray, List.set_cons_zero, List.set_cons_succ]
                        clear hHeld
                        refine wpAnyH_ready (rs := [31, 35]) (by kernel_rfl) (by simp) ?_
                        refine consHL (i := 31) rfl (fun K hK => ?_) ?_
                        · go_simp
                          go_at_call 17; (with_reducible refine cO6.out.mono ?_); rintro e w7 ⟨rfl, rfl⟩
                          try go_wp2_with fail
                          refine hK.out _ _ (by exact kD) (fun hHeld => ?_)
                          clear hK K
                          try simp only [Act.put, List.setIfInBounds_toArray, List.set_cons_zero, List.set_cons_succ]
                          clear hHeld
                          refine wpAnyH_ready (rs := [35]) (by kernel_rfl) (by simp) ?_
                          refine consHL (i := 35) rfl (fun K hK => ?_) ?_
                          · go_simp
                            refine hK.out _ _ (by exact kD) (fun hHeld => ?_)
                            clear hK K
                            try simp only [Act.put, List.setIfInBounds_toArray, List.set_cons_zero, List.set_cons_succ]
                            refine takeHL (i := 36) (v := ?v60) rfl (by kernel_rfl) (by kernel_rfl) (by kernel_rfl) (fun _ _ _ h => h) (Or.inl ⟨by rfl, ?hy60⟩) hHeld ?rs60
                            case hy60 => (intro W hSw; (try dsimp only at hSw); obtain ⟨s0, s1, s2, s3, s4, s5, s6, s7⟩ := hSw; go_simp; try with_reducible rfl)
                            try simp only [Act.put, List.setIfInBounds_toArray, List.set_cons_zero, List.set_cons_succ]
                            refine takeHL (i := 37) (v := ?v61) rfl (by kernel_rfl) (by kernel_rfl) (by kernel_rfl) (fun _ _ _ h => h) (Or.inl ⟨by rfl, ?hy61⟩) hHeld ?rs61
                            case hy61 => (intro W hSw; (try dsimp only at hSw); obtain ⟨s0, s1, s2, s3, s4, s5, s6, s7⟩ := hSw; go_simp; try with_reducible rfl)
                            try simp only [Act.put, List.setIfInBounds_toArray, List.set_cons_zero, List.set_cons_succ]
                            refine takeHL (i := 38) (v := ?v62) rfl (by kernel_rfl) (by kernel_rfl) (by kernel_rfl) (fun _ _ _ h => h) (Or.inl ⟨by rfl, ?hy62⟩) hHeld ?rs62
                            case hy62 => (intro W hSw; (try dsimp only at hSw); obtain ⟨s0, s1, s2, s3, s4, s5, s6, s7⟩ := hSw; go_simp; try with_reducible rfl)
                            try simp only [Act.put, List.setIfInBounds_toArray, List.set_cons_zero, List.set_cons_succ]
                            refine takeHL (i := 39) (v := ?v63) rfl (by kernel_rfl) (by kernel_rfl) (by kernel_rfl) (fun _ _ _ h => h) (Or.inl ⟨by rfl, ?hy63⟩) hHeld ?rs63
                            case hy63 => (intro W hSw; (try dsimp only at hSw); obtain ⟨s0, s1, s2, s3, s4, s5, s6, s7⟩ := hSw; go_simp; try with_reducible rfl)
                            try simp only [Act.put, List.setIfInBounds_toArray, List.set_cons_zero, List.set_cons_succ]
                            refine takeHL (i := 41) (v := ?v64) rfl (by kernel_rfl) (by kernel_rfl) (by kernel_rfl) (fun _ _ _ h => h) (Or.inl ⟨by rfl, ?hy64⟩) hHeld ?rs64
                            case hy64 => (intro W hSw; (try dsimp only at hSw); obtain ⟨s0, s1, s2, s3, s4, s5, s6, s7⟩ := hSw; go_simp; try with_reducible rfl)
                            try simp only [Act.put, List.setIfInBounds_toArray, List.set_cons_zero, List.set_cons_succ]
                            refine takeHL (i := 42) (v := ?v65) rfl (by kernel_rfl) (by kernel_rfl) (by kernel_rfl) (fun _ _ _ h => h) (Or.inl ⟨by rfl, ?hy65⟩) hHeld ?rs65
                            case hy65 => (intro W hSw; (try dsimp only at hSw); obtain ⟨s0, s1, s2, s3, s4, s5, s6, s7⟩ := hSw; go_simp; try with_reducible rfl)
                            try simp only [Act.put, List.setIfInBounds_toArray, List.set_cons_zero, List.set_cons_succ]
                            refine takeHL (i := 43) (v := ?v66) rfl (by kernel_rfl) (by kernel_rfl) (by kernel_rfl) (fun _ _ _ h => h) (Or.inl ⟨by rfl, ?hy66⟩) hHeld ?rs66
                            case hy66 => (intro W hSw; (try dsimp only at hSw); obtain ⟨s0, s1, s2, s3, s4, s5, s6, s7⟩ := hSw; go_simp; try with_reducible rfl)
                            try simp only [Act.put, List.setIfInBounds_toArray, List.set_cons_zero, List.set_cons_succ]
                            clear hHeld
                            refine wpAnyH_ready (rs := [40, 44]) (by kernel_rfl) (by simp) ?_
                            refine consHL (i := 40) rfl (fun K hK => ?_) ?_
                            · go_simp
                              go_at_call 11; (with_reducible refine cP6.out.mono ?_); rintro e w7 ⟨rfl, rfl⟩
                              try go_wp2_with fail
                              refine hK.out _ _ (by exact kD) (fun hHeld => ?_)
                              clear hK K
                              try simp only [Act.put, List.setIfInBounds_toArray, List.set_cons_zero, List.set_cons_succ]
                              clear hHeld
                              refine wpAnyH_ready (rs := [44]) (by kernel_rfl) (by simp) ?_
                              refine consHL (i := 44) rfl (fun K hK => ?_) ?_
                              · go_simp
                                refine hK.out _ _ (by exact kD) (fun hHeld => ?_)
                                clear hK K
                                try simp only [Act.put, List.setIfInBounds_toArray, List.set_cons_zero, List.set_cons_succ]
                                refine takeHL (i := 45) (v := ?v67) rfl (by kernel_rfl) (by kernel_rfl) (by kernel_rfl) (fun _ _ _ h => h) (Or.inl ⟨by rfl, ?hy67⟩) hHeld ?rs67
                                case hy67 => (intro W hSw; (try dsimp only at hSw); obtain ⟨s0, s1, s2, s3, s4, s5, s6, s7⟩ := hSw; go_simp; try with_reducible rfl)
                                try simp only [Act.put, List.setIfInBounds_toArray, List.set_cons_zero, List.set_cons_succ]
                                refine takeHL (i := 46) (v := ?v68) rfl (by kernel_rfl) (by kernel_rfl) (by kernel_rfl) (fun _ _ _ h => h) (Or.inl ⟨by rfl, ?hy68⟩) hHeld ?rs68
                                case hy68 => (intro W hSw; (try dsimp only at hSw); obtain ⟨s0, s1, s2, s3, s4, s5, s6, s7⟩ := hSw; go_simp; try with_reducible rfl)
                                try simp only [Act.put, List.setIfInBounds_toArray, List.set_cons_zero, List.set_cons_succ]
                                refine wpAnyH_done (by kernel_rfl) ?_ _
                                go_wp2_with fail
                                go_roundg (len - (i + 1))
                                case rel => exact ⟨i + 1, s', x', by omega, rfl, by go_num, hB6.out⟩
                                case measure => omega
                              exact AllReadyH.nil
                            refine consHL (i := 44) rfl (fun K hK => ?_) ?_
                            · go_simp
                              refine hK.out _ _ (by exact kD) (fun hHeld => ?_)
                              clear hK K
                              try simp only [Act.put, List.setIfInBounds_toArray, List.set_cons_zero, List.set_cons_succ]
                              clear hHeld
                              refine wpAnyH_ready (rs := [40]) (by kernel_rfl) (by simp) ?_
                              refine consHL (i := 40) rfl (fun K hK => ?_) ?_
                              · go_simp
                                go_at_call 11; (with_reducible refine cP6.out.mono ?_); rintro e w7 ⟨rfl, rfl⟩
                                try go_wp2_with fail
                                refine hK.out _ _ (by exact kD) (fun hHeld => ?_)
                                clear hK K
                                try simp only [Act.put, List.setIfInBounds_toArray, List.set_cons_zero, List.set_cons_succ]
                                refine takeHL (i := 45) (v := ?v69) rfl (by kernel_rfl) (by kernel_rfl) (by kernel_rfl) (fun _ _ _ h => h) (Or.inl ⟨by rfl, ?hy69⟩) hHeld ?rs69
                                case hy69 => (intro W hSw; (try dsimp only at hSw); obtain ⟨s0, s1, s2, s3, s4, s5, s6, s7⟩ := hSw; go_simp; try with_reducible rfl)
                                try simp only [Act.put, List.setIfInBounds_toArray, List.set_cons_zero, List.set_cons_succ]
                                refine takeHL (i := 46) (v := ?v70) rfl (by kernel_rfl) (by kernel_rfl) (by kernel_rfl) (fun _ _ _ h => h) (Or.inl ⟨by rfl, ?hy70⟩) hHeld ?rs70
                                case hy70 => (intro W hSw; (try dsimp only at hSw); obtain ⟨s0, s1, s2, s3, s4, s5, s6, s7⟩ := hSw; go_simp; try with_reducible rfl)
                                try simp only [Act.put, List.setIfInBounds_toArray, List.set_cons_zero, List.set_cons_succ]
                                refine wpAnyH_done (by kernel_rfl) ?_ _
                                go_wp2_with fail
                                go_roundg (len - (i + 1))
                                case rel => exact ⟨i + 1, s', x', by omega, rfl, by go_num, hB6.out⟩
                                case measure => omega
                              exact AllReadyH.nil
                            exact AllReadyH.nil
                          exact AllReadyH.nil
                        refine consHL (i := 35) rfl (fun K hK => ?_) ?_
                        · go_simp
                          refine hK.out _ _ (by exact kD) (fun hHeld => ?_)
                          clear hK K
                          try simp only [Act.put, List.setIfInBounds_toArray, List.set_cons_zero, List.set_cons_succ]
                          clear hHeld
                          refine wpAnyH_ready (rs := [31]) (by kernel_rfl) (by simp) ?_
                          refine consHL (i := 31) rfl (fun K hK => ?_) ?_
                          · go_simp
                            go_at_call 17; (with_reducible refine cO6.out.mono ?_); rintro e w7 ⟨rfl, rfl⟩
                            try go_wp2_with fail
                            refine hK.out _ _ (by exact kD) (fun hHeld => ?_)
                            clear hK K
                            try simp only [Act.put, List.setIfInBounds_toArray, List.set_cons_zero, List.set_cons_succ]
                            refine takeHL (i := 36) (v := ?v71) rfl (by kernel_rfl) (by kernel_rfl) (by kernel_rfl) (fun _ _ _ h => h) (Or.inl ⟨by rfl, ?hy71⟩) hHeld ?rs71
                            case hy71 => (intro W hSw; (try dsimp only at hSw); obtain ⟨s0, s1, s2, s3, s4, s5, s6, s7⟩ := hSw; go_simp; try with_reducible rfl)
                            try simp only [Act.put, List.setIfInBounds_toArray, List.set_cons_zero, List.set_cons_succ]
                            refine takeHL (i := 37) (v := ?v72) rfl (by kernel_rfl) (by kernel_rfl) (by kernel_rfl) (fun _ _ _ h => h) (Or.inl ⟨by rfl, ?hy72⟩) hHeld ?rs72
                            case hy72 => (intro W hSw; (try dsimp only at hSw); obtain ⟨s0, s1, s2, s3, s4, s5, s6, s7⟩ := hSw; go_simp; try with_reducible rfl)
                            try simp only [Act.put, List.setIfInBounds_toArray, List.set_cons_zero, List.set_cons_succ]
                            refine takeHL (i := 38) (v := ?v73) rfl (by kernel_rfl) (by kernel_rfl) (by kernel_rfl) (fun _ _ _ h => h) (Or.inl ⟨by rfl, ?hy73⟩) hHeld ?rs73
                            case hy73 => (intro W hSw; (try dsimp only at hSw); obtain ⟨s0, s1, s2, s3, s4, s5, s6, s7⟩ := hSw; go_simp; try with_reducible rfl)
                            try simp only [Act.put, List.setIfInBounds_toArray, List.set_cons_zero, List.set_cons_succ]
                            refine takeHL (i := 39) (v := ?v74) rfl (by kernel_rfl) (by kernel_rfl) (by kernel_rfl) (fun _ _ _ h => h) (Or.inl ⟨by rfl, ?hy74⟩) hHeld ?rs74
                            case hy74 => (intro W hSw; (try dsimp only at hSw); obtain ⟨s0, s1, s2, s3, s4, s5, s6, s7⟩ := hSw; go_simp; try with_reducible rfl)
                            try simp only [Act.put, List.setIfInBounds_toArray, List.set_cons_zero, List.set_cons_succ]
                            refine takeHL (i := 41) (v := ?v75) rfl (by kernel_rfl) (by kernel_rfl) (by kernel_rfl) (fun _ _ _ h => h) (Or.inl ⟨by rfl, ?hy75⟩) hHeld ?rs75
                            case hy75 => (intro W hSw; (try dsimp only at hSw); obtain ⟨s0, s1, s2, s3, s4, s5, s6, s7⟩ := hSw; go_simp; try with_reducible rfl)
                            try simp only [Act.put, List.setIfInBounds_toArray, List.set_cons_zero, List.set_cons_succ]
                            refine takeHL (i := 42) (v := ?v76) rfl (by kernel_rfl) (by kernel_rfl) (by kernel_rfl) (fun _ _ _ h => h) (Or.inl ⟨by rfl, ?hy76⟩) hHeld ?rs76
                            case hy76 => (intro W hSw; (try dsimp only at hSw); obtain ⟨s0, s1, s2, s3, s4, s5, s6, s7⟩ := hSw; go_simp; try with_reducible rfl)
                            try simp only [Act.put, List.setIfInBounds_toArray, List.set_cons_zero, List.set_cons_succ]
                            refine takeHL (i := 43) (v := ?v77) rfl (by kernel_rfl) (by kernel_rfl) (by kernel_rfl) (fun _ _ _ h => h) (Or.inl ⟨by rfl, ?hy77⟩) hHeld ?rs77
                            case hy77 => (intro W hSw; (try dsimp only at hSw); obtain ⟨s0, s1, s2, s3, s4, s5, s6, s7⟩ := hSw; go_simp; try with_reducible rfl)
                            try simp only [Act.put, List.setIfInBounds_toArray, List.set_cons_zero, List.set_cons_succ]
                            clear hHeld
                            refine wpAnyH_ready (rs := [40, 44]) (by kernel_rfl) (by simp) ?_
                            refine consHL (i := 40) rfl (fun K hK => ?_) ?_
                            · go_simp
                              go_at_call 11; (with_reducible refine cP6.out.mono ?_); rintro e w7 ⟨rfl, rfl⟩
                              try go_wp2_with fail
                              refine hK.out _ _ (by exact kD) (fun hHeld => ?_)
                              clear hK K
                              try simp only [Act.put, List.setIfInBounds_toArray, List.set_cons_zero, List.set_cons_succ]
                              clear hHeld
                              refine wpAnyH_ready (rs := [44]) (by kernel_rfl) (by simp) ?_
                              refine consHL (i := 44) rfl (fun K hK => ?_) ?_
                              · go_simp
                                refine hK.out _ _ (by exact kD) (fun hHeld => ?_)
                                clear hK K
                                try simp only [Act.put, List.setIfInBounds_toArray, List.set_cons_zero, List.set_cons_succ]
                                refine takeHL (i := 45) (v := ?v78) rfl (by kernel_rfl) (by kernel_rfl) (by kernel_rfl) (fun _ _ _ h => h) (Or.inl ⟨by rfl, ?hy78⟩) hHeld ?rs78
                                case hy78 => (intro W hSw; (try dsimp only at hSw); obtain ⟨s0, s1, s2, s3, s4, s5, s6, s7⟩ := hSw; go_simp; try with_reducible rfl)
                                try simp only [Act.put, List.setIfInBounds_toArray, List.set_cons_zero, List.set_cons_succ]
                                refine takeHL (i := 46) (v := ?v79) rfl (by kernel_rfl) (by kernel_rfl) (by kernel_rfl) (fun _ _ _ h => h) (Or.inl ⟨by rfl, ?hy79⟩) hHeld ?rs79
                                case hy79 => (intro W hSw; (try dsimp only at hSw); obtain ⟨s0, s1, s2, s3, s4, s5, s6, s7⟩ := hSw; go_simp; try with_reducible rfl)
                                try simp only [Act.put, List.setIfInBounds_toArray, List.set_cons_zero, List.set_cons_succ]
                                refine wpAnyH_done (by kernel_rfl) ?_ _
                                go_wp2_with fail
                                go_roundg (len - (i + 1))
                                case rel => exact ⟨i + 1, s', x', by omega, rfl, by go_num, hB6.out⟩
                                case measure => omega
                              exact AllReadyH.nil
                            refine consHL (i := 44) rfl (fun K hK => ?_) ?_
                            · go_simp
                              refine hK.out _ _ (by exact kD) (fun hHeld => ?_)
                              clear hK K
                              try simp only [Act.put, List.setIfInBounds_toArray, List.set_cons_zero, List.set_cons_succ]
                              clear hHeld
                              refine wpAnyH_ready (rs := [40]) (by kernel_rfl) (by simp) ?_
                              refine consHL (i := 40) rfl (fun K hK => ?_) ?_
                              · go_simp
                                go_at_call 11; (with_reducible refine cP6.out.mono ?_); rintro e w7 ⟨rfl, rfl⟩
                                try go_wp2_with fail
                                refine hK.out _ _ (by exact kD) (fun hHeld => ?_)
                                clear hK K
                                try simp only [Act.put, List.setIfInBounds_toArray, List.set_cons_zero, List.set_cons_succ]
                                refine takeHL (i := 45) (v := ?v80) rfl (by kernel_rfl) (by kernel_rfl) (by kernel_rfl) (fun _ _ _ h => h) (Or.inl ⟨by rfl, ?hy80⟩) hHeld ?rs80
                                case hy80 => (intro W hSw; (try dsimp only at hSw); obtain ⟨s0, s1, s2, s3, s4, s5, s6, s7⟩ := hSw; go_simp; try with_reducible rfl)
                                try simp only [Act.put, List.setIfInBounds_toArray, List.set_cons_zero, List.set_cons_succ]
                                refine takeHL (i := 46) (v := ?v81) rfl (by kernel_rfl) (by kernel_rfl) (by kernel_rfl) (fun _ _ _ h => h) (Or.inl ⟨by rfl, ?hy81⟩) hHeld ?rs81
                                case hy81 => (intro W hSw; (try dsimp only at hSw); obtain ⟨s0, s1, s2, s3, s4, s5, s6, s7⟩ := hSw; go_simp; try with_reducible rfl)
                                try simp only [Act.put, List.setIfInBounds_toArray, List.set_cons_zero, List.set_cons_succ]
                                refine wpAnyH_done (by kernel_rfl) ?_ _
                                go_wp2_with fail
                                go_roundg (len - (i + 1))
                                case rel => exact ⟨i + 1, s', x', by omega, rfl, by go_num, hB6.out⟩
                                case measure => omega
                              exact AllReadyH.nil
                            exact AllReadyH.nil
                          exact AllReadyH.nil
                        exact AllReadyH.nil
                      exact AllReadyH.nil
                    refine consHL (i := 25) rfl (fun K hK => ?_) ?_
                    · go_simp
                      refine hK.out _ _ (by exact kD) (fun hHeld => ?_)
                      clear hK K
                      try simp only [Act.put, List.setIfInBounds_toArray, List.set_cons_zero, List.set_cons_succ]
                      refine takeHL (i := 26) (v := ?v82) rfl (by kernel_rfl) (by kernel_rfl) (by kernel_rfl) (fun _ _ _ h => h) (Or.inl ⟨by rfl, ?hy82⟩) hHeld ?rs82
                      case hy82 => (intro W hSw; (try dsimp only at hSw); obtain ⟨s0, s1, s2, s3, s4, s5, s6, s7⟩ := hSw; go_simp; try with_reducible rfl)
                      try simp only [Act.put, List.setIfInBounds_toArray, List.set_cons_zero, List.set_cons_succ]
                      clear hHeld
                      refine wpAnyH_ready (rs := [18]) (by kernel_rfl) (by simp) ?_
                      refine consHL (i := 18) rfl (fun K hK => ?_) ?_
                      · go_simp
                        go_at_call 15; (with_reducible refine cA6.out.mono ?_); rintro e w7 ⟨rfl, rfl⟩
                        try go_wp2_with fail
                        refine hK.out _ _ (by exact kD) (fun hHeld => ?_)
                        clear hK K
                        try simp only [Act.put, List.setIfInBounds_toArray, List.set_cons_zero, List.set_cons_succ]
                        refine takeHL (i := 27) (v := ?v83) rfl (by kernel_rfl) (by kernel_rfl) (by kernel_rfl) (fun _ _ _ h => h) (Or.inl ⟨by rfl, ?hy83⟩) hHeld ?rs83
                        case hy83 => (intro W hSw; (try dsimp only at hSw); obtain ⟨s0, s1, s2, s3, s4, s5, s6, s7⟩ := hSw; go_simp; try with_reducible rfl)
                        try simp only [Act.put, List.setIfInBounds_toArray, List.set_cons_zero, List.set_cons_succ]
                        refine takeHL (i := 28) (v := ?v84) rfl (by kernel_rfl) (by kernel_rfl) (by kernel_rfl) (fun _ _ _ h => h) (Or.inl ⟨by rfl, ?hy84⟩) hHeld ?rs84
                        case hy84 => (intro W hSw; (try dsimp only at hSw); obtain ⟨s0, s1, s2, s3, s4, s5, s6, s7⟩ := hSw; go_simp; try with_reducible rfl)
                        try simp only [Act.put, List.setIfInBounds_toArray, List.set_cons_zero, List.set_cons_succ]
                        refine takeHL (i := 29) (v := ?v85) rfl (by kernel_rfl) (by kernel_rfl) (by kernel_rfl) (fun _ _ _ h => h) (Or.inl ⟨by rfl, ?hy85⟩) hHeld ?rs85
                        case hy85 => (intro W hSw; (try dsimp only at hSw); obtain ⟨s0, s1, s2, s3, s4, s5, s6, s7⟩ := hSw; go_simp; try with_reducible rfl)
                        try simp only [Act.put, List.setIfInBounds_toArray, List.set_cons_zero, List.set_cons_succ]
                        refine takeHL (i := 30) (v := ?v86) rfl (by kernel_rfl) (by kernel_rfl) (by kernel_rfl) (fun _ _ _ h => h) (Or.inl ⟨by rfl, ?hy86⟩) hHeld ?rs86
                        case hy86 => (intro W hSw; (try dsimp only at hSw); obtain ⟨s0, s1, s2, s3, s4, s5, s6, s7⟩ := hSw; go_simp; try with_reducible rfl)
                        try simp only [Act.put, List.setIfInBounds_toArray, List.set_cons_zero, List.set_cons_succ]
                        refine takeHL (i := 32) (v := ?v87) rfl (by kernel_rfl) (by kernel_rfl) (by kernel_rfl) (fun _ _ _ h => h) (Or.inl ⟨by rfl, ?hy87⟩) hHeld ?rs87
                        case hy87 => (intro W hSw; (try dsimp only at hSw); obtain ⟨s0, s1, s2, s3, s4, s5, s6, s7⟩ := hSw; go_simp; try with_reducible rfl)
                        try simp only [Act.put, List.setIfInBounds_toArray, List.set_cons_zero, List.set_cons_succ]
                        refine takeHL (i := 33) (v := ?v88) rfl (by kernel_rfl) (by kernel_rfl) (by kernel_rfl) (fun _ _ _ h => h) (Or.inl ⟨by rfl, ?hy88⟩) hHeld ?rs88
                        case hy88 => (intro W hSw; (try dsimp only at hSw); obtain ⟨s0, s1, s2, s3, s4, s5, s6, s7⟩ := hSw; go_simp; try with_reducible rfl)
                        try simp only [Act.put, List.setIfInBounds_toArray, List.set_cons_zero, List.set_cons_succ]
                        refine takeHL (i := 34) (v := ?v89) rfl (by kernel_rfl) (by kernel_rfl) (by kernel_rfl) (fun _ _ _ h => h) (Or.inl ⟨by rfl, ?hy89⟩) hHeld ?rs89
                        case hy89 => (intro W hSw; (try dsimp only at hSw); obtain ⟨s0, s1, s2, s3, s4, s5, s6, s7⟩ := hSw; go_simp; try with_reducible rfl)
                        try simp only [Act.put, List.setIfInBounds_toArray, List.set_cons_zero, List.set_cons_succ]
                        clear hHeld
                        refine wpAnyH_ready (rs := [31, 35]) (by kernel_rfl) (by simp) ?_
                        refine consHL (i := 31) rfl (fun K hK => ?_) ?_
                        · go_simp
                          go_at_call 17; (with_reducible refine cO6.out.mono ?_); rintro e w7 ⟨rfl, rfl⟩
                          try go_wp2_with fail
                          refine hK.out _ _ (by exact kD) (fun hHeld => ?_)
                          clear hK K
                          try simp only [Act.put, List.setIfInBounds_toArray, List.set_cons_zero, List.set_cons_succ]
                          clear hHeld
                          refine wpAnyH_ready (rs := [35]) (by kernel_rfl) (by simp) ?_
                          refine consHL (i := 35) rfl (fun K hK => ?_) ?_
                          · go_simp
                            refine hK.out _ _ (by exact kD) (fun hHeld => ?_)
                            clear hK K
                            try simp only [Act.put, List.setIfInBounds_toArray, List.set_cons_zero, List.set_cons_succ]
                            refine takeHL (i := 36) (v := ?v90) rfl (by kernel_rfl) (by kernel_rfl) (by kernel_rfl) (fun _ _ _ h => h) (Or.inl ⟨by rfl, ?hy90⟩) hHeld ?rs90
                            case hy90 => (intro W hSw; (try dsimp only at hSw); obtain ⟨s0, s1, s2, s3, s4, s5, s6, s7⟩ := hSw; go_simp; try with_reducible rfl)
                            try simp only [Act.put, List.setIfInBounds_toArray, List.set_cons_zero, List.set_cons_succ]
                            refine takeHL (i := 37) (v := ?v91) rfl (by kernel_rfl) (by kernel_rfl) (by kernel_rfl) (fun _ _ _ h => h) (Or.inl ⟨by rfl, ?hy91⟩) hHeld ?rs91
                            case hy91 => (intro W hSw; (try dsimp only at hSw); obtain ⟨s0, s1, s2, s3, s4, s5, s6, s7⟩ := hSw; go_simp; try with_reducible rfl)
                            try simp only [Act.put, List.setIfInBounds_toArray, List.set_cons_zero, List.set_cons_succ]
                            refine takeHL (i := 38) (v := ?v92) rfl (by kernel_rfl) (by kernel_rfl) (by kernel_rfl) (fun _ _ _ h => h) (Or.inl ⟨by rfl, ?hy92⟩) hHeld ?rs92
                            case hy92 => (intro W hSw; (try dsimp only at hSw); obtain ⟨s0, s1, s2, s3, s4, s5, s6, s7⟩ := hSw; go_simp; try with_reducible rfl)
                            try simp only [Act.put, List.setIfInBounds_toArray, List.set_cons_zero, List.set_cons_succ]
                            refine takeHL (i := 39) (v := ?v93) rfl (by kernel_rfl) (by kernel_rfl) (by kernel_rfl) (fun _ _ _ h => h) (Or.inl ⟨by rfl, ?hy93⟩) hHeld ?rs93
                            case hy93 => (intro W hSw; (try dsimp only at hSw); obtain ⟨s0, s1, s2, s3, s4, s5, s6, s7⟩ := hSw; go_simp; try with_reducible rfl)
                            try simp only [Act.put, List.setIfInBounds_toArray, List.set_cons_zero, List.set_cons_succ]
                            refine takeHL (i := 41) (v := ?v94) rfl (by kernel_rfl) (by kernel_rfl) (by kernel_rfl) (fun _ _ _ h => h) (Or.inl ⟨by rfl, ?hy94⟩) hHeld ?rs94
                            case hy94 => (intro W hSw; (try dsimp only at hSw); obtain ⟨s0, s1, s2, s3, s4, s5, s6, s7⟩ := hSw; go_simp; try with_reducible rfl)
                            try simp only [Act.put, List.setIfInBounds_toArray, List.set_cons_zero, List.set_cons_succ]
                            refine takeHL (i := 42) (v := ?v95) rfl (by kernel_rfl) (by kernel_rfl) (by kernel_rfl) (fun _ _ _ h => h) (Or.inl ⟨by rfl, ?hy95⟩) hHeld ?rs95
                            case hy95 => (intro W hSw; (try dsimp only at hSw); obtain ⟨s0, s1, s2, s3, s4, s5, s6, s7⟩ := hSw; go_simp; try with_reducible rfl)
                            try simp only [Act.put, List.setIfInBounds_toArray, List.set_cons_zero, List.set_cons_succ]
                            refine takeHL (i := 43) (v := ?v96) rfl (by kernel_rfl) (by kernel_rfl) (by kernel_rfl) (fun _ _ _ h => h) (Or.inl ⟨by rfl, ?hy96⟩) hHeld ?rs96
                            case hy96 => (intro W hSw; (try dsimp only at hSw); obtain ⟨s0, s1, s2, s3, s4, s5, s6, s7⟩ := hSw; go_simp; try with_reducible rfl)
                            try simp only [Act.put, List.setIfInBounds_toArray, List.set_cons_zero, List.set_cons_succ]
                            clear hHeld
                            refine wpAnyH_ready (rs := [40, 44]) (by kernel_rfl) (by simp) ?_
                            refine consHL (i := 40) rfl (fun K hK => ?_) ?_
                            · go_simp
                              go_at_call 11; (with_reducible refine cP6.out.mono ?_); rintro e w7 ⟨rfl, rfl⟩
                              try go_wp2_with fail
                              refine hK.out _ _ (by exact kD) (fun hHeld => ?_)
                              clear hK K
                              try simp only [Act.put, List.setIfInBounds_toArray, List.set_cons_zero, List.set_cons_succ]
                              clear hHeld
                              refine wpAnyH_ready (rs := [44]) (by kernel_rfl) (by simp) ?_
                              refine consHL (i := 44) rfl (fun K hK => ?_) ?_
                              · go_simp
                                refine hK.out _ _ (by exact kD) (fun hHeld => ?_)
                                clear hK K
                                try simp only [Act.put, List.setIfInBounds_toArray, List.set_cons_zero, List.set_cons_succ]
                                refine takeHL (i := 45) (v := ?v97) rfl (by kernel_rfl) (by kernel_rfl) (by kernel_rfl) (fun _ _ _ h => h) (Or.inl ⟨by rfl, ?hy97⟩) hHeld ?rs97
                                case hy97 => (intro W hSw; (try dsimp only at hSw); obtain ⟨s0, s1, s2, s3, s4, s5, s6, s7⟩ := hSw; go_simp; try with_reducible rfl)
                                try simp only [Act.put, List.setIfInBounds_toArray, List.set_cons_zero, List.set_cons_succ]
                                refine takeHL (i := 46) (v := ?v98) rfl (by kernel_rfl) (by kernel_rfl) (by kernel_rfl) (fun _ _ _ h => h) (Or.inl ⟨by rfl, ?hy98⟩) hHeld ?rs98
                                case hy98 => (intro W hSw; (try dsimp only at hSw); obtain ⟨s0, s1, s2, s3, s4, s5, s6, s7⟩ := hSw; go_simp; try with_reducible rfl)
                                try simp only [Act.put, List.setIfInBounds_toArray, List.set_cons_zero, List.set_cons_succ]
                                refine wpAnyH_done (by kernel_rfl) ?_ _
                                go_wp2_with fail
                                go_roundg (len - (i + 1))
                                case rel => exact ⟨i + 1, s', x', by omega, rfl, by go_num, hB6.out⟩
                                case measure => omega
                              exact AllReadyH.nil
                            refine consHL (i := 44) rfl (fun K hK => ?_) ?_
                            · go_simp
                              refine hK.out _ _ (by exact kD) (fun hHeld => ?_)
                              clear hK K
                              try simp only [Act.put, List.setIfInBounds_toArray, List.set_cons_zero, List.set_cons_succ]
                              clear hHeld
                              refine wpAnyH_ready (rs := [40]) (by kernel_rfl) (by simp) ?_
                              refine consHL (i := 40) rfl (fun K hK => ?_) ?_
                              · go_simp
                                go_at_call 11; (with_reducible refine cP6.out.mono ?_); rintro e w7 ⟨rfl, rfl⟩
                                try go_wp2_with fail
                                refine hK.out _ _ (by exact kD) (fun hHeld => ?_)
                                clear hK K
                                try simp only [Act.put, List.setIfInBounds_toArray, List.set_cons_zero, List.set_cons_succ]
                                refine takeHL (i := 45) (v := ?v99) rfl (by kernel_rfl) (by kernel_rfl) (by kernel_rfl) (fun _ _ _ h => h) (Or.inl ⟨by rfl, ?hy99⟩) hHeld ?rs99
                                case hy99 => (intro W hSw; (try dsimp only at hSw); obtain ⟨s0, s1, s2, s3, s4, s5, s6, s7⟩ := hSw; go_simp; try with_reducible rfl)
                                try simp only [Act.put, List.setIfInBounds_toArray, List.set_cons_zero, List.set_cons_succ]
                                refine takeHL (i := 46) (v := ?v100) rfl (by kernel_rfl) (by kernel_rfl) (by kernel_rfl) (fun _ _ _ h => h) (Or.inl ⟨by rfl, ?hy100⟩) hHeld ?rs100
                                case hy100 => (intro W hSw; (try dsimp only at hSw); obtain ⟨s0, s1, s2, s3, s4, s5, s6, s7⟩ := hSw; go_simp; try with_reducible rfl)
                                try simp only [Act.put, List.setIfInBounds_toArray, List.set_cons_zero, List.set_cons_succ]
                                refine wpAnyH_done (by kernel_rfl) ?_ _
                                go_wp2_with fail
                                go_roundg (len - (i + 1))
                                case rel => exact ⟨i + 1, s', x', by omega, rfl, by go_num, hB6.out⟩
                                case measure => omega
                              exact AllReadyH.nil
                            exact AllReadyH.nil
                          exact AllReadyH.nil
                        refine consHL (i := 35) rfl (fun K hK => ?_) ?_
                        · go_simp
                          refine hK.out _ _ (by exact kD) (fun hHeld => ?_)
                          clear hK K
                          try simp only [Act.put, List.setIfInBounds_toArray, List.set_cons_zero, List.set_cons_succ]
                          clear hHeld
                          refine wpAnyH_ready (rs := [31]) (by kernel_rfl) (by simp) ?_
                          refine consHL (i := 31) rfl (fun K hK => ?_) ?_
                          · go_simp
                            go_at_call 17; (with_reducible refine cO6.out.mono ?_); rintro e w7 ⟨rfl, rfl⟩
                            try go_wp2_with fail
                            refine hK.out _ _ (by exact kD) (fun hHeld => ?_)
                            clear hK K
                            try simp only [Act.put, List.setIfInBounds_toArray, List.set_cons_zero, List.set_cons_succ]
                            refine takeHL (i := 36) (v := ?v101) rfl (by kernel_rfl) (by kernel_rfl) (by kernel_rfl) (fun _ _ _ h => h) (Or.inl ⟨by rfl, ?hy101⟩) hHeld ?rs101
                            case hy101 => (intro W hSw; (try dsimp only at hSw); obtain ⟨s0, s1, s2, s3, s4, s5, s6, s7⟩ := hSw; go_simp; try with_reducible rfl)
                            try simp only [Act.put, List.setIfInBounds_toArray, List.set_cons_zero, List.set_cons_succ]
                            refine takeHL (i := 37) (v := ?v102) rfl (by kernel_rfl) (by kernel_rfl) (by kernel_rfl) (fun _ _ _ h => h) (Or.inl ⟨by rfl, ?hy102⟩) hHeld ?rs102
                            case hy102 => (intro W hSw; (try dsimp only at hSw); obtain ⟨s0, s1, s2, s3, s4, s5, s6, s7⟩ := hSw; go_simp; try with_reducible rfl)
                            try simp only [Act.put, List.setIfInBounds_toArray, List.set_cons_zero, List.set_cons_succ]
                            refine takeHL (i := 38) (v := ?v103) rfl (by kernel_rfl) (by kernel_rfl) (by kernel_rfl) (fun _ _ _ h => h) (Or.inl ⟨by rfl, ?hy103⟩) hHeld ?rs103
                            case hy103 => (intro W hSw; (try dsimp only at hSw); obtain ⟨s0, s1, s2, s3, s4, s5, s6, s7⟩ := hSw; go_simp; try with_reducible rfl)
                            try simp only [Act.put, List.setIfInBounds_toArray, List.set_cons_zero, List.set_cons_succ]
                            refine takeHL (i := 39) (v := ?v104) rfl (by kernel_rfl) (by kernel_rfl) (by kernel_rfl) (fun _ _ _ h => h) (Or.inl ⟨by rfl, ?hy104⟩) hHeld ?rs104
                            case hy104 => (intro W hSw; (try dsimp only at hSw); obtain ⟨s0, s1, s2, s3, s4, s5, s6, s7⟩ := hSw; go_simp; try with_reducible rfl)
                            try simp only [Act.put, List.setIfInBounds_toArray, List.set_cons_zero, List.set_cons_succ]
                            refine takeHL (i := 41) (v := ?v105) rfl (by kernel_rfl) (by kernel_rfl) (by kernel_rfl) (fun _ _ _ h => h) (Or.inl ⟨by rfl, ?hy105⟩) hHeld ?rs105
                            case hy105 => (intro W hSw; (try dsimp only at hSw); obtain ⟨s0, s1, s2, s3, s4, s5, s6, s7⟩ := hSw; go_simp; try with_reducible rfl)
                            try simp only [Act.put, List.setIfInBounds_toArray, List.set_cons_zero, List.set_cons_succ]
                            refine takeHL (i := 42) (v := ?v106) rfl (by kernel_rfl) (by kernel_rfl) (by kernel_rfl) (fun _ _ _ h => h) (Or.inl ⟨by rfl, ?hy106⟩) hHeld ?rs106
                            case hy106 => (intro W hSw; (try dsimp only at hSw); obtain ⟨s0, s1, s2, s3, s4, s5, s6, s7⟩ := hSw; go_simp; try with_reducible rfl)
                            try simp only [Act.put, List.setIfInBounds_toArray, List.set_cons_zero, List.set_cons_succ]
                            refine takeHL (i := 43) (v := ?v107) rfl (by kernel_rfl) (by kernel_rfl) (by kernel_rfl) (fun _ _ _ h => h) (Or.inl ⟨by rfl, ?hy107⟩) hHeld ?rs107
                            case hy107 => (intro W hSw; (try dsimp only at hSw); obtain ⟨s0, s1, s2, s3, s4, s5, s6, s7⟩ := hSw; go_simp; try with_reducible rfl)
                            try simp only [Act.put, List.setIfInBounds_toArray, List.set_cons_zero, List.set_cons_succ]
                            clear hHeld
                            refine wpAnyH_ready (rs := [40, 44]) (by kernel_rfl) (by simp) ?_
                            refine consHL (i := 40) rfl (fun K hK => ?_) ?_
                            · go_simp
                              go_at_call 11; (with_reducible refine cP6.out.mono ?_); rintro e w7 ⟨rfl, rfl⟩
                              try go_wp2_with fail
                              refine hK.out _ _ (by exact kD) (fun hHeld => ?_)
                              clear hK K
                              try simp only [Act.put, List.setIfInBounds_toArray, List.set_cons_zero, List.set_cons_succ]
                              clear hHeld
                              refine wpAnyH_ready (rs := [44]) (by kernel_rfl) (by simp) ?_
                              refine consHL (i := 44) rfl (fun K hK => ?_) ?_
                              · go_simp
                                refine hK.out _ _ (by exact kD) (fun hHeld => ?_)
                                clear hK K
                                try simp only [Act.put, List.setIfInBounds_toArray, List.set_cons_zero, List.set_cons_succ]
                                refine takeHL (i := 45) (v := ?v108) rfl (by kernel_rfl) (by kernel_rfl) (by kernel_rfl) (fun _ _ _ h => h) (Or.inl ⟨by rfl, ?hy108⟩) hHeld ?rs108
                                case hy108 => (intro W hSw; (try dsimp only at hSw); obtain ⟨s0, s1, s2, s3, s4, s5, s6, s7⟩ := hSw; go_simp; try with_reducible rfl)
                                try simp only [Act.put, List.setIfInBounds_toArray, List.set_cons_zero, List.set_cons_succ]
                                refine takeHL (i := 46) (v := ?v109) rfl (by kernel_rfl) (by kernel_rfl) (by kernel_rfl) (fun _ _ _ h => h) (Or.inl ⟨by rfl, ?hy109⟩) hHeld ?rs109
                                case hy109 => (intro W hSw; (try dsimp only at hSw); obtain ⟨s0, s1, s2, s3, s4, s5, s6, s7⟩ := hSw; go_simp; try with_reducible rfl)
                                try simp only [Act.put, List.setIfInBounds_toArray, List.set_cons_zero, List.set_cons_succ]
                                refine wpAnyH_done (by kernel_rfl) ?_ _
                                go_wp2_with fail
                                go_roundg (len - (i + 1))
                                case rel => exact ⟨i + 1, s', x', by omega, rfl, by go_num, hB6.out⟩
                                case measure => omega
                              exact AllReadyH.nil
                            refine consHL (i := 44) rfl (fun K hK => ?_) ?_
                            · go_simp
                              refine hK.out _ _ (by exact kD) (fun hHeld => ?_)
                              clear hK K
                              try simp only [Act.put, List.setIfInBounds_toArray, List.set_cons_zero, List.set_cons_succ]
                              clear hHeld
                              refine wpAnyH_ready (rs := [40]) (by kernel_rfl) (by simp) ?_
                              refine consHL (i := 40) rfl (fun K hK => ?_) ?_
                              · go_simp
                                go_at_call 11; (with_reducible refine cP6.out.mono ?_); rintro e w7 ⟨rfl, rfl⟩
                                try go_wp2_with fail
                                refine hK.out _ _ (by exact kD) (fun hHeld => ?_)
                                clear hK K
                                try simp only [Act.put, List.setIfInBounds_toArray, List.set_cons_zero, List.set_cons_succ]
                                refine takeHL (i := 45) (v := ?v110) rfl (by kernel_rfl) (by kernel_rfl) (by kernel_rfl) (fun _ _ _ h => h) (Or.inl ⟨by rfl, ?hy110⟩) hHeld ?rs110
                                case hy110 => (intro W hSw; (try dsimp only at hSw); obtain ⟨s0, s1, s2, s3, s4, s5, s6, s7⟩ := hSw; go_simp; try with_reducible rfl)
                                try simp only [Act.put, List.setIfInBounds_toArray, List.set_cons_zero, List.set_cons_succ]
                                refine takeHL (i := 46) (v := ?v111) rfl (by kernel_rfl) (by kernel_rfl) (by kernel_rfl) (fun _ _ _ h => h) (Or.inl ⟨by rfl, ?hy111⟩) hHeld ?rs111
                                case hy111 => (intro W hSw; (try dsimp only at hSw); obtain ⟨s0, s1, s2, s3, s4, s5, s6, s7⟩ := hSw; go_simp; try with_reducible rfl)
                                try simp only [Act.put, List.setIfInBounds_toArray, List.set_cons_zero, List.set_cons_succ]
                                refine wpAnyH_done (by kernel_rfl) ?_ _
                                go_wp2_with fail
                                go_roundg (len - (i + 1))
                                case rel => exact ⟨i + 1, s', x', by omega, rfl, by go_num, hB6.out⟩
                                case measure => omega
                              exact AllReadyH.nil
                            exact AllReadyH.nil
                          exact AllReadyH.nil
                        exact AllReadyH.nil
                      exact AllReadyH.nil
                    exact AllReadyH.nil
                  exact AllReadyH.nil
                exact AllReadyH.nil
              exact AllReadyH.nil
            exact AllReadyH.nil
          exact AllReadyH.nil
        · have hd : decide (y.p.M.length ≤ 40) = false := by simpa using hsm
          rw [hd] at cS
          replace cS := Lib.hid fun W => cS W
          replace hH := Lib.hid hH
          clear cT hP hsm
          go_wp2_with (go_at_call 14; (with_reducible refine (cS.out _).mono ?_); rintro e w2 ⟨rfl, hO2⟩; replace hO2 := Lib.hid (hH.out.nil' hO2))
          go_roundg (len - (i + 1))
          case rel => exact ⟨i + 1, s, x, by omega, rfl, by go_num, hO2.out⟩
          case measure => omega
      · have hex : (¬ i < len) ∨ (i < len ∧ ¬ ((i : Int) < 40)) := by
          by_cases h1 : i < len
          · exact .inr ⟨h1, fun h2 => hlt ⟨h1, by omega⟩⟩
          · exact .inl h1
        clear hlt
        have hOr := Lib.hid hH.own
        clear hH
        rcases hex with h2 | ⟨h2, h3⟩
        all_goals
          go_wp2_with (go_at_call 13; (with_reducible refine (AW.out _).mono ?_); rintro e w7 ⟨rfl, hO7⟩; replace hO7 := Lib.hid (hOr.out.trans hO7))
          go_ret
          exact ⟨rfl, hO7.out.below (Nat.le_refl _) (by simp)⟩
end Go.Proofs.YtjfmbjgniajagaaGreatDoor

namespace Go.Proofs.YtjfmbjgniajagaaGreatDoor.lawEdgePlays
open Go.Proofs.YtjfmbjgniajagaaGreatDoor
open Go.ChangeShapes Go.WideShapes Go.ChangeAt Go.RowKit Go.WideMaps Go.WideElems
open Go.ChangeMaps (open_string shut_string)
open Go
set_option linter.unusedVariables false

theorem own : ownKnob Tryz.prog.godebug = none := by kernel_rfl
theorem laidOut : laidOutB Tryz.prog = true := by kernel_rfl
theorem reads (os : Os) {H : Type} (enc : TypeId × Value → H) : ∃ places, DataW.whole enc Tryz.prog ((laidWorld os).forCall (fun _ _ => 0) ⟨#[], #[.string ByteArray.empty, .string ByteArray.empty, .slice none 0 0], []⟩).memory Tryz.f7.params.toList Rows.edgePlaysSpec.vars false (#[.string ByteArray.empty, .string ByteArray.empty, .slice none 0 0] : Array Value).toList 8 = some ([.lit (.string []), .lit (.string []), .nil], [], places) :=
  ⟨[], by kernel_rfl⟩
set_option maxRecDepth 100000 in
theorem lifted (os : Os) (started : os.Started) (H : Type) (enc : TypeId × Value → H) (F : Stop.Interp) :
    ReturnsInHanded {} Tryz.checked os 7 .any ((OpenSpec.ofChange Rows.edgePlaysSpec).preRow enc Tryz.prog Tryz.f7 Rows.edgePlaysRow.domain false Rows.edgePlaysRow.laid) (((OpenSpec.ofChange Rows.edgePlaysSpec).at F).post enc Tryz.prog Tryz.f7 false true false false) := by
  obtain ⟨places, hx⟩ := reads os enc
  refine returnsInHanded_of_row (C := Tryz.checked) (s := (OpenSpec.ofChange Rows.edgePlaysSpec)) own started (by kernel_rfl) Tryz.func7
    (witness_row_atRef (enc := enc) (C := Tryz.checked) false (laidWorld os) #[.string ByteArray.empty, .string ByteArray.empty, .slice none 0 0] rfl (by kernel_rfl) (by kernel_rfl) (by kernel_rfl)
      (OpenSpec.preRow_of_cond 8 hx (by kernel_rfl) (fun k hk => by cases hk) (by kernel_rfl) (laid_met os _))) ?_
  intro W base args ds gs before hval0 hW hcnd hk0 hsz0 hL _ _
  have tabs := tabs_of hL
  have hval : ∀ (j : Nat) t v, Tryz.f7.params[j]? = some t → args[j]? = some v → Value.okWide Tryz.prog W .any base t v := hval0
  have hW' := hW
  obtain ⟨p, q, hA0, hV, rfl, hfz, hnd⟩ := hW
  have hA : DataW.TrodAll enc Tryz.prog W 0 (fun _ => true) true Tryz.f7.params.toList args.toList ds p := hA0
  have hsz := hsz0
  rw [Tryz.params7] at hA hval hsz
  obtain ⟨v0, vs0, d0, ds0, p0, q0, hargs, rfl, rfl, h0, r0⟩ := trodAll_cons hA
  obtain ⟨v1, vs1, d1, ds1, p1, q1, rfl, rfl, rfl, h1, r1⟩ := trodAll_cons r0
  obtain ⟨v2, vs2, d2, ds2, p2, q2, rfl, rfl, rfl, h2, r2⟩ := trodAll_cons r1
  obtain ⟨rfl, rfl, rfl⟩ := trodAll_nil r2
  obtain rfl : args = #[v0, v1, v2] := by cases args; simp_all
  obtain ⟨rfl, rfl⟩ := trodVars_none hV
  obtain ⟨a0, rfl, rfl, rfl, w0⟩ := open_string Tryz.underlying9 (hval 0 9 v0 rfl rfl) h0
  have z0 : a0.size ≤ 140737488351232 := reach_string (sized_string hsz (j := 0) (t := 9) rfl rfl)
  obtain ⟨a1, rfl, rfl, rfl, w1⟩ := open_string Tryz.underlying9 (hval 1 9 v1 rfl rfl) h1
  have z1 : a1.size ≤ 140737488351232 := reach_string (sized_string hsz (j := 1) (t := 9) rfl rfl)
  obtain ⟨a2, len2, cap2, rfl⟩ := okWide_slice Tryz.underlying48 (hval 2 48 v2 rfl rfl)
  have k2 := h2
  have lt2 : ∀ x ∈ p2, x.block < W.heap.size := by obtain ⟨m, hm⟩ := k2; exact DataW.trod_lt m _ _ _ hm
  obtain ⟨fu2, hf2⟩ := h2
  obtain ⟨z2, w2⟩ := open_eacts hf2 hsz (j := 2) rfl rfl
  clear hA0 hval0
  refine (edgePlays_walk a0 a1 a2 len2 cap2 z2 W z0 z1 w2 tabs).mono fun e W' ⟨he, bel⟩ => ?_
  subst he
  exact ⟨_, rfl, _, _, _, [], _, [], hW', trodAll_mk1 (shut_bool Tryz.underlying4 _), (trodAll_cons_mk (shut_string Tryz.underlying9 w0) (trodAll_cons_mk (shut_string Tryz.underlying9 w1) (trodAll_cons_mk (Below.trod laidOut (by kernel_rfl) (of_decide_eq_true (by kernel_rfl)) k2 bel lt2) trodAll_mk0))), rfl, bel.frame _, fun h => by cases h⟩

theorem said : Rows.EdgePlaysSaid :=
  OpenClaim.holds_of_cond 7 Tryz.f7 rfl rfl rfl rfl rfl rfl rfl ⟨rfl, rfl, rfl, rfl, rfl⟩ rfl rfl rfl rfl rfl (by kernel_rfl) Tryz.func7 (by kernel_rfl)
    (of_decide_eq_true (by kernel_rfl)) (by unfold Func.isWrapper; first | (rw [if_pos (by decide +kernel)]; kernel_rfl) | (rw [if_neg (by decide +kernel)]; exact ⟨rfl, rfl⟩))
    (fun os started H enc _ F => by rw [OpenClaim.pre_eq_preRow]; exact lifted os started H enc F)
theorem plainArgs (f : FuncId) (fn : Func) (hf : Tryz.pinned.checked.prog.funcNamed "crier/crierlaw33.EdgePlays" = some f) (hfn : Tryz.pinned.checked.prog.funcs[f]? = some fn) :
    true = Tryz.pinned.checked.prog.looks [] ∧ ∀ (j : Nat) t, fn.params[j]? = some t → Tryz.pinned.checked.prog.wantsStandIn t = false := by
  obtain rfl : f = 7 := Option.some.inj ((show Tryz.prog.funcNamed "crier/crierlaw33.EdgePlays" = some 7 by kernel_rfl).symm.trans hf) |>.symm
  obtain rfl : fn = Tryz.f7 := (Option.some.inj (Tryz.func7.symm.trans hfn)).symm
  refine ⟨by kernel_rfl, fun j t ht => ?_⟩
  rw [Tryz.params7] at ht
  have hm := Array.mem_of_getElem? ht
  simp only [List.mem_toArray, List.mem_cons, List.not_mem_nil, or_false] at hm
  rcases hm with rfl | rfl | rfl
  · exact (show Tryz.prog.wantsStandIn 9 = false by kernel_rfl)
  · exact (show Tryz.prog.wantsStandIn 9 = false by kernel_rfl)
  · exact (show Tryz.prog.wantsStandIn 48 = false by kernel_rfl)
theorem proved : Rows.EdgePlaysCardSaid :=
  Claim7.holds_tied_plain_at .later [] _ _ _ _ said (fun _ h => by cases h) (by kernel_rfl) (fun _ h => by cases h) edgePlays_row_tie rfl ⟨rfl, rfl⟩ (by kernel_rfl) rfl plainArgs (by kernel_rfl)
#print axioms proved
end Go.Proofs.YtjfmbjgniajagaaGreatDoor.lawEdgePlays
