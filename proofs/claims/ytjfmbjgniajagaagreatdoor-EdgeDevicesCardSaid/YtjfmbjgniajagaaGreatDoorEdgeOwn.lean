/- Payloads, and rows of acts (crierlaw33.Act), that came in. Package edge: a node of the call's own, with what holds of it at all times; the laws' small. Package edge: a node of the call's own, and memory that is none of its parts. -/
import Derived.Test.YtjfmbjgniajagaaGreatDoorEdgeM
import Derived.Test.YtjfmbjgniajagaaGreatDoorErrLaid
import Derived.Test.YtjfmbjgniajagaaGreatDoorEdgeSame
import Derived.Test.YtjfmbjgniajagaaGreatDoorEdgeOps
namespace Go.Proofs.YtjfmbjgniajagaaGreatDoor
open Go.RowKit Go.ChangeShapes Go.WideShapes

def Pay.cells (p : Pay) : List Value := [.int .u64 p.t, .bool p.h, .int .u64 p.s, .string p.u, .string p.b, .slice p.a p.M.length p.c]
/-- What a node is told. -/
structure EAct where
  k : Int
  dev : ByteArray
  p : Pay
def EAct.cells (x : EAct) : List Value := [.int .i64 x.k, .string x.dev, .int .u64 x.p.t, .bool x.p.h, .int .u64 x.p.s, .string x.p.u, .string x.p.b, .slice x.p.a x.p.M.length x.p.c]
def PayAt (w : World) (p : Pay) : Prop := 0 ≤ p.s ∧ MetsAt w p.a p.M
/-- A row of acts: what it holds. -/
def EActs (w : World) (a : Option Addr) (len : Nat) (ms : Nat → EAct) : Prop :=
  len ≤ maxLen ∧ (0 < len → ∃ b o, a = some ⟨b, o, none⟩ ∧ b < w.heap.size ∧ ∀ i, i < len → PayAt w (ms i).p ∧ ∀ j v, (ms i).cells[j]? = some v → w.cell? ⟨b, o + i * 8 + j, none⟩ = some v)
theorem PayAt.nil' {w w' : World} {p : Pay} (h : PayAt w p) (ho : Own [] w w') : PayAt w' p := ⟨h.1, h.2.nil' ho⟩
section
variable {H : Type} {enc : TypeId × Value → H} {w : World}
theorem weights_mem_all {P : Program} {e : TypeId} : ∀ {ds : List (DataW H)} {d : DataW H}, d ∈ ds → ∀ n ∈ d.weights P e, n ∈ DataW.weightsAll P e ds
  | d0 :: ds, d, hm, n, hn => by
    simp only [DataW.weightsAll, List.mem_append]
    rcases List.mem_cons.1 hm with rfl | h
    · exact .inl hn
    · exact .inr (weights_mem_all h n hn)
/-- A field of a struct that came in. -/
theorem trod_field {P : Program} {base fuel : Nat} {spare : Nat → Bool} {held : Bool} {t : TypeId} {cs : List Value} {x : DataW H × List MemPlace} {fs : Array Field} (ht : P.underlying t = some (.struct fs)) (h : DataW.trod enc P w base spare held fuel t cs = some x)
    (hw : (x.1.weights P t).all (· ≤ reachBytes) = true) {i : Nat} {f : Field} (hf : fs[i]? = some f) :
    ∃ n y, DataW.trod enc P w base spare held n f.type ((cs.drop f.offset).take (P.cellsOf f.type)) = some y ∧ (y.1.weights P f.type).all (· ≤ reachBytes) = true := by
  obtain ⟨xs, m, _, rfl, hlen, hxs, hg⟩ := DataW.trod_struct ht h
  have hi : i < xs.length := by rw [hxs]; exact (Array.getElem?_eq_some_iff.1 hf).1
  refine ⟨m, xs[i], by rw [hg i f hf, List.getElem?_eq_getElem hi], List.all_eq_true.2 fun n hn => ?_⟩
  refine List.all_eq_true.1 hw n ?_
  simp only [DataW.weights, ht]
  exact DataW.weights_mem_each (j := i) (t := f.type) (d := xs[i].1) (by simp [hf]) (by simp [hi]) n hn
/-- A slice of rows that came in, within something else. -/
theorem open_rowsW {fuel : Nat} {α : Type} [Inhabited α] {cell : α → List Value} {good : α → Prop} {t e : TypeId} {sz bytes : Nat} {ks : List CK} (ht : Tryz.prog.underlying t = some (.slice e)) (hk : flat Tryz.prog 3 e = some ks) (hs : Tryz.prog.cellsOf e = sz) (hpos : 0 < sz) (hb : Tryz.prog.bytesOf e = bytes) (hbp : 0 < bytes)
    (hfit : ∀ cs, Fits ks cs → ∃ x : α, good x ∧ cs = cell x) {a0 : Option Addr} {len0 cap0 : Nat} {x : DataW H × List MemPlace} (h : DataW.trod enc Tryz.prog w 0 (fun _ => true) true fuel t [.slice a0 len0 cap0] = some x)
    (hw : (x.1.weights Tryz.prog t).all (· ≤ reachBytes) = true) :
    ∃ L : List α, len0 = L.length ∧ RowsAt cell sz good w a0 L := by
  rcases open_flat ht 3 sz hk hs hpos h with ⟨hcs, _⟩ | ⟨a, len, cap, m, elems, rest, ps, C, hcs, rfl, hel, hm, hlm, hx⟩
  · simp at hcs
    obtain ⟨rfl, rfl, rfl⟩ := hcs
    exact ⟨[], rfl, RowsAt.empty _ _⟩
  · simp at hcs
    obtain ⟨rfl, rfl, rfl⟩ := hcs
    have hbb : (elems.length + rest.length) * Tryz.prog.bytesOf e ≤ reachBytes := by
      have := List.all_eq_true.1 hw ((elems.length + rest.length) * Tryz.prog.bytesOf e) (by simp [DataW.weights, ht])
      simpa using this
    rw [hb] at hbb
    simp only [reachBytes] at hbb
    by_cases hl : 0 < len0
    · obtain ⟨b, o, rfl, hbl, hc⟩ := hx hl
      obtain ⟨its, hits⟩ := Deep.choose_lt (α := α) (n := len0) (p := fun i x => good x ∧ C i = cell x) (fun i hi => hfit _ (hc i hi).1)
      have hle : len0 * bytes ≤ 140737488351232 := by
        have : len0 * bytes ≤ m * bytes := Nat.mul_le_mul_right _ hlm
        rw [← hm] at this
        omega
      have hl1 : len0 ≤ len0 * bytes := Nat.le_mul_of_pos_right _ hbp
      refine ⟨(List.range len0).map its, by simp, by simp; omega, fun _ => ⟨b, o, rfl, hbl, fun i x hi => ?_⟩⟩
      have hil : i < len0 := by simpa using (List.getElem?_eq_some_iff.1 hi).1
      obtain rfl : its i = x := by simpa [hil] using hi
      exact ⟨(hits i hil).1, fun j v hv => (hc i hil).2 j v (by rw [(hits i hil).2]; exact hv)⟩
    · obtain rfl : len0 = 0 := by omega
      exact ⟨[], rfl, RowsAt.empty _ _⟩
def paylKinds : List CK := [.int .u64, .bool, .int .u64, .str, .str, .sl]
theorem payl_flat : flat Tryz.prog 3 39 = some paylKinds := by kernel_rfl
theorem pay_field : ∃ fs, Tryz.prog.underlying 39 = some (.struct fs) ∧ ∃ f, fs[5]? = some f ∧ f.type = 37 ∧ f.offset = 5 := ⟨_, Tryz.underlying39, _, rfl, rfl, rfl⟩
theorem mets_cells : Tryz.prog.cellsOf 37 = 1 := by kernel_rfl
set_option maxRecDepth 100000 in
theorem open_payload {fuel : Nat} {cs : List Value} {x : DataW H × List MemPlace} (h : DataW.trod enc Tryz.prog w 0 (fun _ => true) true fuel 39 cs = some x) (hw : (x.1.weights Tryz.prog 39).all (· ≤ reachBytes) = true) :
    ∃ p : Pay, cs = p.cells ∧ PayAt w p := by
  obtain ⟨hl, hf⟩ := flat_fits 3 payl_flat h
  obtain ⟨fs, hu, f, hf5, ht5, ho5⟩ := pay_field
  obtain ⟨n, y, hy, hyw⟩ := trod_field hu h hw hf5
  match cs, hl with
  | [v0, v1, v2, v3, v4, v5], _ =>
    obtain ⟨n0, rfl, _⟩ := hf 0 _ _ rfl rfl
    obtain ⟨b1, rfl⟩ := hf 1 _ _ rfl rfl
    obtain ⟨n2, rfl, w2⟩ := hf 2 _ _ rfl rfl
    obtain ⟨s3, rfl, _⟩ := hf 3 _ _ rfl rfl
    obtain ⟨s4, rfl, _⟩ := hf 4 _ _ rfl rfl
    obtain ⟨x5, y5, z5, rfl⟩ := hf 5 _ _ rfl rfl
    rw [ho5, ht5, mets_cells] at hy
    rw [ht5] at hyw
    obtain ⟨L, rfl, hL⟩ := open_rowsW Tryz.underlying37 met_flat met_cells (by omega) met_bytes (by omega) (fun _ => fits_met) hy hyw
    obtain ⟨a1, _⟩ := bounds_u64 w2
    exact ⟨⟨n0, b1, n2, s3, s4, x5, L, z5⟩, rfl, a1, hL⟩
def eactKinds : List CK := [.int .i64, .str, .int .u64, .bool, .int .u64, .str, .str, .sl]
theorem eact_flat : flat Tryz.prog 4 50 = some eactKinds := by kernel_rfl
theorem eact_cells : Tryz.prog.cellsOf 50 = 8 := by kernel_rfl
theorem payl_cells : Tryz.prog.cellsOf 39 = 6 := by kernel_rfl
theorem eact_field : ∃ fs, Tryz.prog.underlying 50 = some (.struct fs) ∧ ∃ f, fs[2]? = some f ∧ f.type = 39 ∧ f.offset = 2 := ⟨_, Tryz.underlying50, _, rfl, rfl, rfl⟩
set_option maxRecDepth 100000 in
theorem open_eact {fuel : Nat} {cs : List Value} {x : DataW H × List MemPlace} (h : DataW.trod enc Tryz.prog w 0 (fun _ => true) true fuel 50 cs = some x) (hw : (x.1.weights Tryz.prog 50).all (· ≤ reachBytes) = true) :
    ∃ p : EAct, cs = p.cells ∧ PayAt w p.p := by
  obtain ⟨hl, hf⟩ := flat_fits 4 eact_flat h
  obtain ⟨fs, hu, f, hf2, ht2, ho2⟩ := eact_field
  obtain ⟨n, y, hy, hyw⟩ := trod_field hu h hw hf2
  match cs, hl with
  | [v0, v1, v2, v3, v4, v5, v6, v7], _ =>
    obtain ⟨n0, rfl, _⟩ := hf 0 _ _ rfl rfl
    obtain ⟨s1, rfl, _⟩ := hf 1 _ _ rfl rfl
    rw [ho2, ht2, payl_cells] at hy
    rw [ht2] at hyw
    obtain ⟨p, hp, hP⟩ := open_payload hy hyw
    refine ⟨⟨n0, s1, p⟩, ?_, hP⟩
    simp only [List.drop_succ_cons, List.drop_zero, List.take_succ_cons, List.take_zero, Pay.cells] at hp
    unfold EAct.cells
    rw [hp]
instance : Inhabited EAct := ⟨⟨0, ByteArray.empty, ⟨0, false, 0, ByteArray.empty, ByteArray.empty, none, [], 0⟩⟩⟩
set_option maxRecDepth 100000 in
theorem open_eacts {fuel : Nat} {a0 : Option Addr} {len0 cap0 : Nat} {x : DataW H × List MemPlace} (h : DataW.trod enc Tryz.prog w 0 (fun _ => true) true fuel 48 (Value.cells (.slice a0 len0 cap0)).toList = some x)
    {ts : List TypeId} {ds : List (DataW H)} (hsz : (DataW.weightsEach Tryz.prog ts ds).all (· ≤ reachBytes) = true) {j : Nat} (ht : ts[j]? = some 48) (hd : ds[j]? = some x.1) : ∃ ms, EActs w a0 len0 ms := by
  have hw : (x.1.weights Tryz.prog 48).all (· ≤ reachBytes) = true := List.all_eq_true.2 fun n hn => List.all_eq_true.1 hsz n (DataW.weights_mem_each ht hd n hn)
  rcases Deep.open_slice Tryz.underlying48 h with ⟨hcs, _⟩ | ⟨a, len, cap, m, n, D, Pl, hcs, hb, hl, hm, hmm, rfl, hx⟩
  · simp [Value.cells] at hcs
    obtain ⟨rfl, rfl, rfl⟩ := hcs
    exact ⟨fun _ => default, by unfold maxLen; omega, fun h => by omega⟩
  · simp [Value.cells] at hcs
    obtain ⟨rfl, rfl, rfl⟩ := hcs
    rw [eact_cells] at hx
    have hlm : len0 ≤ m := by rw [hmm]; split <;> omega
    obtain ⟨C, hC⟩ := Deep.choose_lt (α := EAct) (n := len0) (p := fun i c => w.cells? 0 (a.add (i * 8)) 8 = some c.cells ∧ PayAt w c.p) (fun i hi => by
      obtain ⟨cs', h1, h2⟩ := hx i (by omega)
      obtain ⟨p, rfl, hp⟩ := open_eact h2 (List.all_eq_true.2 fun n hn => List.all_eq_true.1 hw n (by
        simp only [DataW.weights, Tryz.underlying48, List.mem_cons, List.mem_append]
        exact .inr (.inl (weights_mem_all (List.mem_map.2 ⟨i, List.mem_range.2 hi, rfl⟩) n hn))))
      exact ⟨p, h1, hp⟩)
    refine ⟨C, by omega, fun hpl => ?_⟩
    obtain ⟨b, o, sp⟩ := a
    have hs := cells_spot (hC 0 (by omega)).1 (by omega)
    have hsp : sp = none := by simpa [Addr.add] using hs.1
    subst hsp
    refine ⟨b, o, rfl, by simpa [Addr.add] using hs.2, fun i hi => ⟨(hC i hi).2, fun j v hv => ?_⟩⟩
    refine cells_get (hC i hi).1 ?_ hv
    unfold Addr.add
    by_cases hi0 : i * 8 = 0
    · simp [hi0]
    · simp [hi0]
end
end Go.Proofs.YtjfmbjgniajagaaGreatDoor

set_option linter.unusedSimpArgs false
namespace Go.Proofs.YtjfmbjgniajagaaGreatDoor
open Go.RowKit

theorem eal_any (n : Nat) (g nm : ByteArray) (L : EW) (s : EN) (w : World) (h : EdgeAt w n g nm L s) : Calls Tryz.prog 15 #[.pointer (some ⟨n, 0, none⟩)] w fun e w' => e = .returned (.int .i64 s.al.length) ∧ w = w' := by
  obtain ⟨⟨k2, k3, k4, k5, k6, k7, k8⟩, _⟩ := edge_cells h (S := []) (by simp) _ (Own.refl _ _)
  have cN := Lib.hid (enone_any n ⟨L.rb, 0, none⟩ w k4)
  have cL := Lib.hid (len_any L.tb L.tm s.al w h.tab)
  clear h k2 k3 k5 k6 k8
  go_enter Tryz.func15, Tryz.ntmps15
  go_wp2_with (first
    | (go_at_call 24; (with_reducible refine cN.out.mono ?_); rintro e w1 ⟨rfl, rfl⟩)
    | (go_at_call 29; (with_reducible refine cL.out.mono ?_); rintro e w1 ⟨rfl, rfl⟩))
  go_ret
  exact ⟨rfl, rfl⟩
theorem eon_any (n : Nat) (g nm : ByteArray) (L : EW) (s : EN) (w : World) (h : EdgeAt w n g nm L s) : Calls Tryz.prog 17 #[.pointer (some ⟨n, 0, none⟩)] w fun e w' => e = .returned (.bool s.online) ∧ w = w' := by
  obtain ⟨⟨k2, k3, k4, k5, k6, k7, k8⟩, _⟩ := edge_cells h (S := []) (by simp) _ (Own.refl _ _)
  have cN := Lib.hid (enone_any n ⟨L.rb, 0, none⟩ w k4)
  clear h k3 k5 k6 k7 k8
  go_enter Tryz.func17, Tryz.ntmps17
  go_wp2_with (go_at_call 24; (with_reducible refine cN.out.mono ?_); rintro e w1 ⟨rfl, rfl⟩)
  go_ret
  exact ⟨by simp, rfl⟩
theorem EH.al {w0 wr : World} {n : Nat} {g nm : ByteArray} {s : EN} (h : EH w0 wr n g nm s) : Calls Tryz.prog 15 #[.pointer (some ⟨n, 0, none⟩)] wr fun e w' => e = .returned (.int .i64 s.al.length) ∧ wr = w' := by
  obtain ⟨L, h1, h2, h3⟩ := h
  exact eal_any n g nm L s wr h1
theorem EH.on {w0 wr : World} {n : Nat} {g nm : ByteArray} {s : EN} (h : EH w0 wr n g nm s) : Calls Tryz.prog 17 #[.pointer (some ⟨n, 0, none⟩)] wr fun e w' => e = .returned (.bool s.online) ∧ wr = w' := by
  obtain ⟨L, h1, h2, h3⟩ := h
  exact eon_any n g nm L s wr h1
theorem EH.few {w0 wr : World} {n : Nat} {g nm : ByteArray} {s : EN} (h : EH w0 wr n g nm s) : (s.items.length ≤ 32 ∧ s.al.length ≤ 64 ∧ s.dev.length ≤ 4) ∧ ∀ x ∈ s.dev, x.items.length ≤ 32 := by
  obtain ⟨L, h1, h2, h3⟩ := h
  refine ⟨h1.few, fun x hx => ?_⟩
  obtain ⟨i, hi⟩ := List.getElem?_of_mem hx
  have hl : i < L.ds.length := by rw [← h1.len]; exact (List.getElem?_eq_some_iff.1 hi).1
  exact (h1.devs i _ x (List.getElem?_eq_getElem hl) hi).2.2.2
theorem EH.viewAt {w0 wr : World} {n : Nat} {g nm : ByteArray} {s : EN} (h : EH w0 wr n g nm s) : Calls Tryz.prog 12 #[.pointer (some ⟨n, 0, none⟩)] wr fun e w' => ∃ a cap va vc V, e = .returned (.agg #[.string g, .string nm, .bool s.online, .int .i64 (bdV s), .int .i64 (nextV s), .bool s.pending, .slice a s.items.length cap, .slice va s.dev.length vc]) ∧
    VAt w' s.items s.dev a va V ∧ Own [] wr w' ∧ EH w0 w' n g nm s := by
  have hf := h.few
  refine h.view.mono ?_
  rintro e w' ⟨a, cap, va, vn, vc, V, rfl, ⟨k1, k2, k3⟩, k4, k5⟩
  obtain ⟨q1, rfl⟩ := vat_of k1 k2 k3 hf.1.1 hf.1.2.2 hf.2
  exact ⟨a, cap, va, vc, V, rfl, q1, k4, k5⟩
/-- A node of the call's own. -/
def EI (w0 wr : World) (n : Nat) (g nm : ByteArray) (s : EN) : Prop := EH w0 wr n g nm s ∧ EInv s
theorem EI.nil' {w0 wr w' : World} {n : Nat} {g nm : ByteArray} {s : EN} (h : EI w0 wr n g nm s) (ho : Own [] wr w') : EI w0 w' n g nm s := ⟨h.1.nil' ho, h.2⟩
theorem EI.take {w0 wr : World} {n : Nat} {g nm : ByteArray} {s : EN} (k : Int) (dn : ByteArray) (p : Pay) (h : EI w0 wr n g nm s) (hP : PayAt wr p) (hE : Errs w0) :
    Calls Tryz.prog 10 #[.pointer (some ⟨n, 0, none⟩), .int .i64 k, .string dn, .agg #[.int .u64 p.t, .bool p.h, .int .u64 p.s, .string p.u, .string p.b, .slice p.a p.M.length p.c]] wr fun e w' => e = .returned (.int .i64 (eTake s k dn p).1) ∧ EI w0 w' n g nm (eTake s k dn p).2 := by
  obtain ⟨⟨L, h1, h2, h3⟩, h4⟩ := h
  refine (take_e n g nm L s k dn p wr h1 h4.1 hP.2 hP.1 (hE.nil h3)).mono fun e w' hp => ?_
  obtain ⟨q1, q2⟩ := EH.post h2 h3 hp
  exact ⟨q1, q2, eTake_inv h4 k dn p⟩
theorem EI.new (g nm : ByteArray) (w : World) (hg : g.toList.isEmpty = false) (hn : nm.toList.isEmpty = false) :
    Calls Tryz.prog 9 #[.string g, .string nm] w fun e w' => ∃ n, e = .returned (.tuple #[.pointer (some ⟨n, 0, none⟩), .int .i64 0]) ∧ EI w w' n g nm ⟨false, 0, 0, false, false, [], [], []⟩ :=
  (EH.new g nm w hg hn).mono fun _ _ ⟨n, h1, h2⟩ => ⟨n, h1, h2, einv_new⟩
theorem small_any (p : Pay) (w : World) : Calls Tryz.prog 14 #[.agg #[.int .u64 p.t, .bool p.h, .int .u64 p.s, .string p.u, .string p.b, .slice p.a p.M.length p.c]] w fun e w' => e = .returned (.bool (decide (p.M.length ≤ 40))) ∧ Own [] w w' := by
  obtain ⟨p0, p1, p2, p3, p4, p5⟩ := pbox_cells w p (S := []) (by simp) _ (Own.refl _ _)
  have hO := Lib.hid (pbox_own w p)
  simp only [pbox] at hO p0 p1 p2 p3 p4 p5
  go_enter Tryz.func14, Tryz.ntmps14
  go_wp2_with fail
  go_ret
  exact ⟨by simp; omega, hO.out⟩
/-- An act's cells. -/
def EActAt (W : World) (b q : Nat) (x : EAct) : Prop := W.cell? ⟨b, q, none⟩ = some (.int .i64 x.k) ∧ W.cell? ⟨b, q + 1, none⟩ = some (.string x.dev) ∧
  W.cell? ⟨b, q + 2, none⟩ = some (.int .u64 x.p.t) ∧ W.cell? ⟨b, q + 3, none⟩ = some (.bool x.p.h) ∧ W.cell? ⟨b, q + 4, none⟩ = some (.int .u64 x.p.s) ∧ W.cell? ⟨b, q + 5, none⟩ = some (.string x.p.u) ∧
  W.cell? ⟨b, q + 6, none⟩ = some (.string x.p.b) ∧ W.cell? ⟨b, q + 7, none⟩ = some (.slice x.p.a x.p.M.length x.p.c)
theorem EActAt.nil' {w W : World} {b q : Nat} {x : EAct} (h : EActAt w b q x) (ho : Own [] w W) : EActAt W b q x := by
  obtain ⟨h0, h1, h2, h3, h4, h5, h6, h7⟩ := h
  have hc : ∀ j v, w.cell? ⟨b, j, none⟩ = some v → W.cell? ⟨b, j, none⟩ = some v := fun j v hv => (ho.cell (p := ⟨b, j, none⟩) (block_lt_of_cell hv) (by simp)).trans hv
  exact ⟨hc _ _ h0, hc _ _ h1, hc _ _ h2, hc _ _ h3, hc _ _ h4, hc _ _ h5, hc _ _ h6, hc _ _ h7⟩
theorem eacts_at {w : World} {a : Option Addr} {len : Nat} {ms : Nat → EAct} (h : EActs w a len ms) {W : World} (ho : Own [] w W) {i : Nat} (hi : i < len) :
    ∃ b o, a = some ⟨b, o, none⟩ ∧ PayAt W (ms i).p ∧ EActAt W b (o + i * 8) (ms i) := by
  obtain ⟨b, o, rfl, hb, hx⟩ := h.2 (by omega)
  obtain ⟨h1, h2⟩ := hx i hi
  have hc : ∀ j v, (ms i).cells[j]? = some v → W.cell? ⟨b, o + i * 8 + j, none⟩ = some v := fun j v hv => (ho.cell (p := ⟨b, o + i * 8 + j, none⟩) hb (by simp)).trans (h2 j v hv)
  exact ⟨b, o, rfl, h1.nil' ho, hc 0 _ rfl, hc 1 _ rfl, hc 2 _ rfl, hc 3 _ rfl, hc 4 _ rfl, hc 5 _ rfl, hc 6 _ rfl, hc 7 _ rfl⟩
theorem eacts_all {w : World} {a : Option Addr} {len : Nat} {ms : Nat → EAct} (h : EActs w a len ms) {i : Nat} (hi : i < len) :
    ∃ b o, a = some ⟨b, o, none⟩ ∧ ∀ W, Own [] w W → PayAt W (ms i).p ∧ EActAt W b (o + i * 8) (ms i) := by
  obtain ⟨b, o, e, _⟩ := h.2 (by omega)
  refine ⟨b, o, e, fun W ho => ?_⟩
  obtain ⟨b2, o2, e2, h1, h2⟩ := eacts_at h ho hi
  rw [e] at e2
  cases e2
  exact ⟨h1, h2⟩
end Go.Proofs.YtjfmbjgniajagaaGreatDoor

set_option linter.unusedSimpArgs false
namespace Go.Proofs.YtjfmbjgniajagaaGreatDoor
open Go.RowKit

/-- Between B and C nothing has changed. -/
def Gap (B C : Nat) (w w' : World) : Prop := ∃ S, Own S w w' ∧ ∀ x ∈ S, x < B ∨ C ≤ x
theorem Gap.nil {B C : Nat} {w w' : World} (h : Own [] w w') : Gap B C w w' := ⟨[], h, by simp⟩
theorem Gap.heap {B C : Nat} {w w' : World} (h : Gap B C w w') {b : Nat} {o : Obj} (hb : w.heap[b]? = some o) (h1 : B ≤ b) (h2 : b < C) : w'.heap[b]? = some o := by
  obtain ⟨S, hO, hS⟩ := h
  exact hO.heap hb (fun hx => by rcases hS b hx with h3 | h3 <;> omega)
theorem Gap.mono' {B C C' : Nat} {w w' : World} (h : Gap B C' w w') (hC : C ≤ C') : Gap B C w w' := by
  obtain ⟨S, hO, hS⟩ := h
  exact ⟨S, hO, fun x hx => by rcases hS x hx with h1 | h1 <;> omega⟩
theorem Gap.trans {B C : Nat} {w w1 w2 : World} (h : Gap B C w w1) (k : Gap B C w1 w2) : Gap B C w w2 := by
  obtain ⟨S, hO, hS⟩ := h
  obtain ⟨S', hO', hS'⟩ := k
  refine ⟨S ++ S', (hO.mono fun x hx => List.mem_append_left _ hx).trans (hO'.mono fun x hx => List.mem_append_right _ hx), fun x hx => ?_⟩
  rcases List.mem_append.1 hx with h1 | h1
  · exact hS x h1
  · exact hS' x h1
theorem Gap.set {B C : Nat} {w : World} {b : Nat} (h : C ≤ b) (o : Nat) (v : Value) : Gap B C w (w.setCell ⟨b, o, none⟩ v) := ⟨[b], (Own.refl _ _).setCell (by simp) _, fun x hx => by simp at hx; exact .inr (hx ▸ h)⟩
/-- A node: none of its parts lies between B and C. -/
def EX (w0 wr : World) (n : Nat) (g nm : ByteArray) (s : EN) (B C : Nat) : Prop :=
  ∃ L, EdgeAt wr n g nm L s ∧ (∀ x ∈ L.feet n, w0.heap.size ≤ x ∧ (x < B ∨ C ≤ x)) ∧ Own [] w0 wr ∧ EInv s ∧ C ≤ wr.heap.size ∧ w0.heap.size ≤ B
theorem EI.gap {w0 wr w' : World} {n : Nat} {g nm : ByteArray} {s : EN} (h : EI w0 wr n g nm s) (ho : Own [] wr w') : EX w0 w' n g nm s wr.heap.size w'.heap.size := by
  obtain ⟨⟨L, h1, h2, h3⟩, h4⟩ := h
  exact ⟨L, h1.nil' ho, fun x hx => ⟨h2 x hx, .inl (h1.lt x hx)⟩, h3.trans ho, h4, Nat.le_refl _, h3.size⟩
theorem EX.ei {w0 wr : World} {n : Nat} {g nm : ByteArray} {s : EN} {B C : Nat} (h : EX w0 wr n g nm s B C) : EI w0 wr n g nm s := by
  obtain ⟨L, h1, h2, h3, h4, _⟩ := h
  exact ⟨⟨L, h1, fun x hx => (h2 x hx).1, h3⟩, h4⟩
theorem EX.nil' {w0 wr w' : World} {n : Nat} {g nm : ByteArray} {s : EN} {B C : Nat} (h : EX w0 wr n g nm s B C) (ho : Own [] wr w') : EX w0 w' n g nm s B C := by
  obtain ⟨L, h1, h2, h3, h4, h5, h6⟩ := h
  exact ⟨L, h1.nil' ho, h2, h3.trans ho, h4, Nat.le_trans h5 ho.size, h6⟩
theorem EX.set {w0 wr : World} {n : Nat} {g nm : ByteArray} {s : EN} {B C : Nat} (h : EX w0 wr n g nm s B C) {b : Nat} (h1 : B ≤ b) (h2 : b < C) (o : Nat) (v : Value) : EX w0 (wr.setCell ⟨b, o, none⟩ v) n g nm s B C := by
  obtain ⟨L, k1, k2, k3, k4, k5, k6⟩ := h
  have hO : Own [b] wr (wr.setCell ⟨b, o, none⟩ v) := (Own.refl _ _).setCell (by simp) _
  refine ⟨L, k1.own hO (fun x hx => by have := (k2 x hx).2; simp; omega), k2, k3.trans' hO (fun x hx => .inr (by simp at hx; omega)), k4, Nat.le_trans k5 hO.size, k6⟩
theorem EX.take {w0 wr : World} {n : Nat} {g nm : ByteArray} {s : EN} {B C : Nat} (k : Int) (dn : ByteArray) (p : Pay) (h : EX w0 wr n g nm s B C) (hP : PayAt wr p) (hE : Errs w0) :
    Calls Tryz.prog 10 #[.pointer (some ⟨n, 0, none⟩), .int .i64 k, .string dn, .agg #[.int .u64 p.t, .bool p.h, .int .u64 p.s, .string p.u, .string p.b, .slice p.a p.M.length p.c]] wr fun e w' => e = .returned (.int .i64 (eTake s k dn p).1) ∧ EX w0 w' n g nm (eTake s k dn p).2 B C ∧ Gap B C wr w' := by
  obtain ⟨L, h1, h2, h3, h4, h5, h6⟩ := h
  refine (take_e n g nm L s k dn p wr h1 h4.1 hP.2 hP.1 (hE.nil h3)).mono ?_
  rintro e w' ⟨rfl, L', k1, k2, k3⟩
  refine ⟨rfl, ⟨L', k1, fun x hx => ?_, h3.trans' k2 (fun x hx => .inr (h2 x hx).1), eTake_inv h4 k dn p, Nat.le_trans h5 k2.size, h6⟩, _, k2, fun x hx => (h2 x hx).2⟩
  rcases k3 x hx with h7 | h7
  · exact h2 x h7
  · exact ⟨Nat.le_trans h3.size h7, .inr (Nat.le_trans h5 h7)⟩
/-- A view that was made behind B lies so. -/
def ViewB (B : Nat) (w : World) (its : List Itm) (dev : List Dev) (a : Option Addr) (cap : Nat) (va : Option Addr) (vc : Nat) (V : List DV) : Prop :=
  OutRow B w a cap its ∧ Sl 56 vEnc 3 B w (.slice va dev.length vc) V ∧ DVs B w V dev
theorem ViewB.gap {B C : Nat} {w w' : World} {its : List Itm} {dev : List Dev} {a : Option Addr} {cap : Nat} {va : Option Addr} {vc : Nat} {V : List DV} (h : ViewB B w its dev a cap va vc V) (hg : Gap B C w w') (hC : w.heap.size ≤ C) : ViewB B w' its dev a cap va vc V := by
  obtain ⟨S, hO, hS⟩ := hg
  obtain ⟨h1, h2, h3⟩ := h
  have hno : ∀ b, B ≤ b → b < w.heap.size → b ∉ S := fun b q1 q2 hx => by rcases hS b hx with h4 | h4 <;> omega
  have hrow : ∀ {a : Option Addr} {cap : Nat} {l : List Itm}, OutRow B w a cap l → OutRow B w' a cap l := fun hR => hR.own' hO (fun b hb => by have := fresh_ge hR b hb; exact hno b this.1 this.2)
  exact ⟨hrow h1, h2.own hO (fun b hb => by have := h2.block hb; exact hno b this.1 this.2), h3.1, fun i v x hv hx => by
    obtain ⟨q1, q2, q3, q4⟩ := h3.2 i v x hv hx
    exact ⟨q1, q2, q3, hrow q4⟩⟩
theorem ViewB.at_ {B : Nat} {w : World} {s : EN} {a : Option Addr} {cap : Nat} {va : Option Addr} {vc : Nat} {V : List DV} (h : ViewB B w s.items s.dev a cap va vc V) (hf : (s.items.length ≤ 32 ∧ s.al.length ≤ 64 ∧ s.dev.length ≤ 4) ∧ ∀ x ∈ s.dev, x.items.length ≤ 32) : VAt w s.items s.dev a va V :=
  (vat_of h.1 h.2.1 h.2.2 hf.1.1 hf.1.2.2 hf.2).1
theorem EI.viewB {w0 wr : World} {n : Nat} {g nm : ByteArray} {s : EN} (h : EI w0 wr n g nm s) : Calls Tryz.prog 12 #[.pointer (some ⟨n, 0, none⟩)] wr fun e w' => ∃ a cap va vc V, e = .returned (.agg #[.string g, .string nm, .bool s.online, .int .i64 (bdV s), .int .i64 (nextV s), .bool s.pending, .slice a s.items.length cap, .slice va s.dev.length vc]) ∧
    ViewB wr.heap.size w' s.items s.dev a cap va vc V ∧ Own [] wr w' := by
  have hf := h.1.few
  refine h.1.view.mono ?_
  rintro e w' ⟨a, cap, va, vn, vc, V, rfl, ⟨k1, k2, k3⟩, k4, k5⟩
  obtain ⟨q1, rfl⟩ := vat_of k1 k2 k3 hf.1.1 hf.1.2.2 hf.2
  exact ⟨a, cap, va, vc, V, rfl, ⟨k1, k2, k3⟩, k4⟩
set_option maxRecDepth 100000 in
theorem open_eactv {H : Type} {enc : TypeId × Value → H} {w : World} {r : Reach} {b0 : Nat} {fuel : Nat} {v : Value} {x : DataW H × List MemPlace} (hv : Value.okWide Tryz.prog w r b0 50 v)
    (h : DataW.trod enc Tryz.prog w 0 (fun _ => true) true fuel 50 (Value.cells v).toList = some x) {ts : List TypeId} {ds : List (DataW H)} (hsz : (DataW.weightsEach Tryz.prog ts ds).all (· ≤ reachBytes) = true) {j : Nat} (ht : ts[j]? = some 50) (hd : ds[j]? = some x.1) :
    ∃ p : EAct, v = .agg #[.int .i64 p.k, .string p.dev, .int .u64 p.p.t, .bool p.p.h, .int .u64 p.p.s, .string p.p.u, .string p.p.b, .slice p.p.a p.p.M.length p.p.c] ∧ PayAt w p.p := by
  have hw : (x.1.weights Tryz.prog 50).all (· ≤ reachBytes) = true := List.all_eq_true.2 fun n hn => List.all_eq_true.1 hsz n (DataW.weights_mem_each ht hd n hn)
  obtain ⟨cs, rfl, _⟩ := Go.WideShapes.okWide_struct Tryz.underlying50 hv
  obtain ⟨p, hp, hP⟩ := open_eact h hw
  refine ⟨p, ?_, hP⟩
  have : cs = p.cells.toArray := by
    apply Array.ext'
    simpa [Value.cells] using hp
  rw [this]
  rfl
set_option maxRecDepth 100000 in
theorem open_payv {H : Type} {enc : TypeId × Value → H} {w : World} {r : Reach} {b0 : Nat} {fuel : Nat} {v : Value} {x : DataW H × List MemPlace} (hv : Value.okWide Tryz.prog w r b0 39 v)
    (h : DataW.trod enc Tryz.prog w 0 (fun _ => true) true fuel 39 (Value.cells v).toList = some x) {ts : List TypeId} {ds : List (DataW H)} (hsz : (DataW.weightsEach Tryz.prog ts ds).all (· ≤ reachBytes) = true) {j : Nat} (ht : ts[j]? = some 39) (hd : ds[j]? = some x.1) :
    ∃ p : Pay, v = .agg #[.int .u64 p.t, .bool p.h, .int .u64 p.s, .string p.u, .string p.b, .slice p.a p.M.length p.c] ∧ PayAt w p := by
  have hw : (x.1.weights Tryz.prog 39).all (· ≤ reachBytes) = true := List.all_eq_true.2 fun n hn => List.all_eq_true.1 hsz n (DataW.weights_mem_each ht hd n hn)
  obtain ⟨cs, rfl, _⟩ := Go.WideShapes.okWide_struct Tryz.underlying39 hv
  obtain ⟨p, hp, hP⟩ := open_payload h hw
  refine ⟨p, ?_, hP⟩
  have : cs = p.cells.toArray := by
    apply Array.ext'
    simpa [Value.cells] using hp
  rw [this]
  rfl
end Go.Proofs.YtjfmbjgniajagaaGreatDoor
