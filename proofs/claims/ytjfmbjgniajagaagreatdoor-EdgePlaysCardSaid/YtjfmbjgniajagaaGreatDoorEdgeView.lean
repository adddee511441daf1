/- Package edge: View. -/
import Derived.Test.YtjfmbjgniajagaaGreatDoorEdgeData2
import Derived.Test.YtjfmbjgniajagaaGreatDoorItemsFind2
import Derived.Test.YtjfmbjgniajagaaGreatDoorDevHap
import Derived.Test.YtjfmbjgniajagaaGreatDoorSteps
import Derived.Shelf.Abstract
import Derived.Deep.RegionHeld3
set_option linter.unusedSimpArgs false
namespace Go.Proofs.YtjfmbjgniajagaaGreatDoor
open Go.RowKit

def bdV (s : EN) : Int := if s.online = true then s.bd else 0
def nextV (s : EN) : Int := if s.begun = true then s.want else 0
def z8 (w : World) (b : Nat) : Prop := (w.cell? ⟨b, 0, none⟩ = some (.string ⟨#[]⟩) ∧ w.cell? ⟨b, 1, none⟩ = some (.string ⟨#[]⟩) ∧ w.cell? ⟨b, 2, none⟩ = some (.bool false) ∧ w.cell? ⟨b, 3, none⟩ = some (.int .i64 0) ∧ w.cell? ⟨b, 4, none⟩ = some (.int .i64 0) ∧ w.cell? ⟨b, 5, none⟩ = some (.bool false) ∧ w.cell? ⟨b, 6, none⟩ = some (.slice none 0 0) ∧ w.cell? ⟨b, 7, none⟩ = some (.slice none 0 0)) ∧
      (w.frozen? ⟨b, 0, none⟩ = false ∧ w.frozen? ⟨b, 1, none⟩ = false ∧ w.frozen? ⟨b, 2, none⟩ = false ∧ w.frozen? ⟨b, 3, none⟩ = false ∧ w.frozen? ⟨b, 4, none⟩ = false ∧ w.frozen? ⟨b, 5, none⟩ = false ∧ w.frozen? ⟨b, 6, none⟩ = false ∧ w.frozen? ⟨b, 7, none⟩ = false)
theorem z8_at {w : World} {b : Nat} (h : w.heap[b]? = some (.cells #[.string ⟨#[]⟩, .string ⟨#[]⟩, .bool false, .int .i64 0, .int .i64 0, .bool false, .slice none 0 0, .slice none 0 0] 45 (0, 0))) : z8 w b := blk8 h
theorem row8 {w : World} {b : Nat} {T : TypeId} {u0 u1 u2 u3 u4 u5 u6 u7 v0 v1 v2 v3 v4 v5 v6 v7 : Value} (h : w.heap[b]? = some (.cells #[u0, u1, u2, u3, u4, u5, u6, u7] T (0, 0))) :
    ((((((((w.setCell ⟨b, 0, none⟩ v0).setCell ⟨b, 1, none⟩ v1).setCell ⟨b, 2, none⟩ v2).setCell ⟨b, 3, none⟩ v3).setCell ⟨b, 4, none⟩ v4).setCell ⟨b, 5, none⟩ v5).setCell ⟨b, 6, none⟩ v6).setCell ⟨b, 7, none⟩ v7).heap[b]? = some (.cells #[v0, v1, v2, v3, v4, v5, v6, v7] T (0, 0)) := by
  have h0 : (w.setCell ⟨b, 0, none⟩ v0).heap[b]? = some (.cells #[v0, u1, u2, u3, u4, u5, u6, u7] T (0, 0)) := heap_setCell_same _ _ _ _ _ _ h
  have h1 : ((w.setCell ⟨b, 0, none⟩ v0).setCell ⟨b, 1, none⟩ v1).heap[b]? = some (.cells #[v0, v1, u2, u3, u4, u5, u6, u7] T (0, 0)) := heap_setCell_same _ _ _ _ _ _ h0
  have h2 : (((w.setCell ⟨b, 0, none⟩ v0).setCell ⟨b, 1, none⟩ v1).setCell ⟨b, 2, none⟩ v2).heap[b]? = some (.cells #[v0, v1, v2, u3, u4, u5, u6, u7] T (0, 0)) := heap_setCell_same _ _ _ _ _ _ h1
  have h3 : ((((w.setCell ⟨b, 0, none⟩ v0).setCell ⟨b, 1, none⟩ v1).setCell ⟨b, 2, none⟩ v2).setCell ⟨b, 3, none⟩ v3).heap[b]? = some (.cells #[v0, v1, v2, v3, u4, u5, u6, u7] T (0, 0)) := heap_setCell_same _ _ _ _ _ _ h2
  have h4 : (((((w.setCell ⟨b, 0, none⟩ v0).setCell ⟨b, 1, none⟩ v1).setCell ⟨b, 2, none⟩ v2).setCell ⟨b, 3, none⟩ v3).setCell ⟨b, 4, none⟩ v4).heap[b]? = some (.cells #[v0, v1, v2, v3, v4, u5, u6, u7] T (0, 0)) := heap_setCell_same _ _ _ _ _ _ h3
  have h5 : ((((((w.setCell ⟨b, 0, none⟩ v0).setCell ⟨b, 1, none⟩ v1).setCell ⟨b, 2, none⟩ v2).setCell ⟨b, 3, none⟩ v3).setCell ⟨b, 4, none⟩ v4).setCell ⟨b, 5, none⟩ v5).heap[b]? = some (.cells #[v0, v1, v2, v3, v4, v5, u6, u7] T (0, 0)) := heap_setCell_same _ _ _ _ _ _ h4
  have h6 : (((((((w.setCell ⟨b, 0, none⟩ v0).setCell ⟨b, 1, none⟩ v1).setCell ⟨b, 2, none⟩ v2).setCell ⟨b, 3, none⟩ v3).setCell ⟨b, 4, none⟩ v4).setCell ⟨b, 5, none⟩ v5).setCell ⟨b, 6, none⟩ v6).heap[b]? = some (.cells #[v0, v1, v2, v3, v4, v5, v6, u7] T (0, 0)) := heap_setCell_same _ _ _ _ _ _ h5
  have h7 : ((((((((w.setCell ⟨b, 0, none⟩ v0).setCell ⟨b, 1, none⟩ v1).setCell ⟨b, 2, none⟩ v2).setCell ⟨b, 3, none⟩ v3).setCell ⟨b, 4, none⟩ v4).setCell ⟨b, 5, none⟩ v5).setCell ⟨b, 6, none⟩ v6).setCell ⟨b, 7, none⟩ v7).heap[b]? = some (.cells #[v0, v1, v2, v3, v4, v5, v6, v7] T (0, 0)) := heap_setCell_same _ _ _ _ _ _ h6
  exact h7
theorem z8_own {S : List Nat} {w w' : World} {b : Nat} (h : z8 w b) (ho : Own S w w') (hb : b ∉ S) : z8 w' b := by
  obtain ⟨⟨h0, h1, h2, h3, h4, h5, h6, h7⟩, g0, g1, g2, g3, g4, g5, g6, g7⟩ := h
  have hl := block_lt_of_cell h0
  have hc : ∀ o v, w.cell? ⟨b, o, none⟩ = some v → w'.cell? ⟨b, o, none⟩ = some v := fun o v h => (ho.cell (p := ⟨b, o, none⟩) hl hb).trans h
  have hf : ∀ o, w.frozen? ⟨b, o, none⟩ = false → w'.frozen? ⟨b, o, none⟩ = false := fun o h => (World.frozen?_of_block (w := w) (ho.block b hl hb)).trans h
  exact ⟨⟨hc _ _ h0, hc _ _ h1, hc _ _ h2, hc _ _ h3, hc _ _ h4, hc _ _ h5, hc _ _ h6, hc _ _ h7⟩, hf _ g0, hf _ g1, hf _ g2, hf _ g3, hf _ g4, hf _ g5, hf _ g6, hf _ g7⟩
/-- A device as a view shows it. -/
structure DV where
  name : ByteArray
  on : Bool
  a : Option Addr
  n : Nat
  cap : Nat
def vEnc (v : DV) : List Value := [.string v.name, .bool v.on, .slice v.a v.n v.cap]
theorem vEnc_len (v : DV) : (vEnc v).length = 3 := rfl
theorem dvInfo : (Tryz.prog.info? 56).map (fun i => (i.zero, i.size, i.bytes)) = some (some (.agg #[.string ⟨#[]⟩, .bool false, .slice none 0 0]), 3, 48) := by kernel_rfl
theorem vElem : Elem Tryz.prog 43 56 vEnc 3 48 where
  ut := Tryz.underlying43
  info := by obtain ⟨i, h1, h2, h3, h4⟩ := info_parts dvInfo; exact ⟨i, _, h1, h2, h3, h4, rfl⟩
  pos := by omega
  len := vEnc_len
  one x u hu := by simp [vEnc] at hu; rcases hu with rfl | rfl | rfl <;> rfl
def DVs (B : Nat) (w : World) (V : List DV) (X : List Dev) : Prop := V.length = X.length ∧ ∀ (i : Nat) v x, V[i]? = some v → X[i]? = some x → v.name = x.name ∧ v.on = x.on ∧ v.n = x.items.length ∧ OutRow B w v.a v.cap x.items
/-- What a view has, as it is filled. r: the block of the result; t: the block of the view. -/
structure VL (w wr : World) (r t : Nat) (a : Option Addr) (cap : Nat) (its : List Itm) (vv : Value) (V : List DV) (X : List Dev) : Prop where
  out : OutRow w.heap.size wr a cap its
  sl : Sl 56 vEnc 3 w.heap.size wr vv V
  dvs : DVs w.heap.size wr V X
  own : Own [] w wr
  ge : w.heap.size ≤ r ∧ w.heap.size ≤ t
  n1 : ∀ b, a.map (·.block) = some b → b ≠ r ∧ b ≠ t ∧ vv.ownBlock ≠ some b
  n2 : ∀ v ∈ V, ∀ b, v.a.map (·.block) = some b → b ≠ r ∧ b ≠ t ∧ vv.ownBlock ≠ some b
  n3 : ∀ b, vv.ownBlock = some b → b ≠ r ∧ b ≠ t
theorem VL.own' {S : List Nat} {w wr w' : World} {r t : Nat} {a : Option Addr} {cap : Nat} {its : List Itm} {vv : Value} {V : List DV} {X : List Dev} (h : VL w wr r t a cap its vv V X) (ho : Own S wr w') (hS : ∀ x ∈ S, x = r ∨ x = t) : VL w w' r t a cap its vv V X := by
  have hno : ∀ b, b ≠ r → b ≠ t → b ∉ S := fun b h1 h2 hx => by rcases hS b hx with h | h; exact h1 h; exact h2 h
  refine ⟨h.out.own' ho (fun b hb => hno b (h.n1 b hb).1 (h.n1 b hb).2.1), h.sl.own ho (fun b hb => hno b (h.n3 b hb).1 (h.n3 b hb).2), ⟨h.dvs.1, fun i v x hv hx => ?_⟩, h.own.trans' ho (fun x hx => .inr ?_), h.ge, h.n1, h.n2, h.n3⟩
  · obtain ⟨k1, k2, k3, k4⟩ := h.dvs.2 i v x hv hx
    have := h.n2 v (List.mem_of_getElem? hv)
    exact ⟨k1, k2, k3, k4.own' ho (fun b hb => hno b (this b hb).1 (this b hb).2.1)⟩
  · rcases hS x hx with h1 | h1
    · rw [h1]; exact h.ge.1
    · rw [h1]; exact h.ge.2
theorem fresh_ge {B : Nat} {w : World} {a : Option Addr} {cap : Nat} {L : List Itm} (h : OutRow B w a cap L) : ∀ b, a.map (·.block) = some b → B ≤ b ∧ b < w.heap.size := fun b hb => by
  refine ⟨?_, h.blt hb⟩
  cases a with
  | none => cases hb
  | some q => cases hb; exact h.fresh q rfl
/-- One device more. -/
theorem VL.push {w wr w1 w2 w3 : World} {r t : Nat} {a : Option Addr} {cap : Nat} {its : List Itm} {vv v3 : Value} {V : List DV} {X : List Dev} {x : Dev} {d : DV} (h : VL w wr r t a cap its vv V X) (hrt : r < wr.heap.size ∧ t < wr.heap.size)
    (h1 : d.name = x.name ∧ d.on = x.on ∧ d.n = x.items.length ∧ OutRow wr.heap.size w1 d.a d.cap x.items) (ho1 : Own [] wr w1) (ho2 : Own [] w1 w2) (hS : Sl 56 vEnc 3 w.heap.size w3 v3 (V ++ [d]))
    (ho3 : Own vv.ownBlock.toList w2 w3) (hg : ∀ g, v3.ownBlock = some g → vv.ownBlock = some g ∨ w2.heap.size ≤ g) : VL w w3 r t a cap its v3 (V ++ [d]) (X ++ [x]) := by
  have hlt := fun b hb => (fresh_ge h.out b hb).2
  have hsz1 := ho1.size
  have hsz2 := ho2.size
  have hO12 : Own [] wr w2 := ho1.trans ho2
  have hvS : ∀ b, vv.ownBlock ≠ some b → b ∉ vv.ownBlock.toList := fun b hb hx => hb (Option.mem_toList.1 hx)
  have hnew : ∀ b, b < w2.heap.size → vv.ownBlock ≠ some b → v3.ownBlock ≠ some b := fun b hb h1 h2 => by
    rcases hg b h2 with h3 | h3
    · exact h1 h3
    · omega
  have hvlt : ∀ v ∈ V, ∀ b, v.a.map (·.block) = some b → b < wr.heap.size := fun v hv b hb => by
    obtain ⟨i, hi⟩ := List.getElem?_of_mem hv
    have hil : i < X.length := by rw [← h.dvs.1]; exact (List.getElem?_eq_some_iff.1 hi).1
    exact (fresh_ge (h.dvs.2 i v _ hi (List.getElem?_eq_getElem hil)).2.2.2 b hb).2
  have hd1 := fresh_ge h1.2.2.2
  have hvw : ∀ b, vv.ownBlock = some b → b < wr.heap.size := fun b hb => (h.sl.block hb).2
  refine ⟨(h.out.nil' hO12).own' ho3 (fun b hb => hvS b (h.n1 b hb).2.2), hS, ⟨by simp [h.dvs.1], fun i v y hv hy => ?_⟩, (h.own.trans hO12).trans' ho3 (fun y hy => .inr ?_), h.ge, fun b hb => ⟨(h.n1 b hb).1, (h.n1 b hb).2.1, hnew b (by have := hlt b hb; omega) (h.n1 b hb).2.2⟩, fun v hv b hb => ?_, fun b hb => ?_⟩
  · rcases Nat.lt_or_ge i V.length with hi | hi
    · rw [List.getElem?_append_left hi] at hv
      rw [List.getElem?_append_left (by rw [← h.dvs.1]; exact hi)] at hy
      obtain ⟨k1, k2, k3, k4⟩ := h.dvs.2 i v y hv hy
      exact ⟨k1, k2, k3, (k4.nil' hO12).own' ho3 (fun b hb => hvS b ((h.n2 v (List.mem_of_getElem? hv)) b hb).2.2)⟩
    · rw [List.getElem?_append_right hi] at hv
      rw [List.getElem?_append_right (by rw [← h.dvs.1]; exact hi), ← h.dvs.1] at hy
      rcases hj : i - V.length with _ | j
      · rw [hj] at hv hy
        simp at hv hy
        subst hv; subst hy
        have h4 := (h1.2.2.2.nil' ho2).own' ho3 (fun b hb => hvS b (fun e => by have := hvw b e; have := (hd1 b hb).1; omega))
        exact ⟨h1.1, h1.2.1, h1.2.2.1, ⟨h4.own, fun q hq => Nat.le_trans h.own.size (h4.fresh q hq), h4.good⟩⟩
      · rw [hj] at hv; simp at hv
  · exact (h.sl.block (Option.mem_toList.1 hy)).1
  · rcases List.mem_append.1 hv with hv | hv
    · exact ⟨(h.n2 v hv b hb).1, (h.n2 v hv b hb).2.1, hnew b (by have := hvlt v hv b hb; omega) (h.n2 v hv b hb).2.2⟩
    · simp at hv; subst hv
      have h5 := hd1 b hb
      exact ⟨by omega, by omega, hnew b (by omega) (fun e => by have := hvw b e; omega)⟩
  · rcases hg b hb with h3 | h3
    · exact h.n3 b h3
    · exact ⟨by omega, by omega⟩
theorem dview_st (d : DW) (x : Dev) (wr w : World) (h : DevAt w d x) (ho : Own [] wr w) :
    Calls Tryz.prog 28 #[.pointer (some ⟨d.blk, 0, none⟩)] w fun e w' => ∃ v, e = .returned v ∧ ∃ a cap, v = .agg #[.string x.name, .bool x.on, .slice a x.items.length cap] ∧ OutRow wr.heap.size w' a cap x.items ∧ Own [] wr w' :=
  (dview_any d x w h).mono (by
    rintro e w' ⟨a, cap, rfl, h2, h3⟩
    exact ⟨_, rfl, a, cap, rfl, ⟨h2.own, fun q hq => Nat.le_trans ho.size (h2.fresh q hq), h2.good⟩, ho.trans h3⟩)
/-- What View answers. -/
def ViewPost (g nm : ByteArray) (s : EN) (w : World) (e : Ending) (w' : World) : Prop := ∃ a cap vv V, e = .returned (.agg #[.string g, .string nm, .bool s.online, .int .i64 (bdV s), .int .i64 (nextV s), .bool s.pending, .slice a s.items.length cap, vv]) ∧ OutRow w.heap.size w' a cap s.items ∧ Sl 56 vEnc 3 w.heap.size w' vv V ∧ DVs w.heap.size w' V s.dev ∧ Own [] w w'
theorem viewPost_mk {g nm : ByteArray} {s : EN} {w w' : World} {a : Option Addr} {cap : Nat} {its : List Itm} {vv : Value} {V : List DV} {ob pe : Bool} {bv nx : Int} (h1 : s.online = ob) (h2 : bdV s = bv) (h3 : nextV s = nx) (h4 : s.pending = pe) (h5 : s.items = its)
    (h : OutRow w.heap.size w' a cap its ∧ Sl 56 vEnc 3 w.heap.size w' vv V ∧ DVs w.heap.size w' V s.dev ∧ Own [] w w') : ViewPost g nm s w (.returned (.agg #[.string g, .string nm, .bool ob, .int .i64 bv, .int .i64 nx, .bool pe, .slice a its.length cap, vv])) w' := by
  subst h1 h2 h3 h4 h5
  exact ⟨a, cap, vv, V, rfl, h⟩
abbrev S5 (n : Nat) (g nm : ByteArray) (on pe : Bool) (iv : Value) (W : World) : Prop := W.cell? ⟨n, 0, none⟩ = some (.string g) ∧ W.cell? ⟨n, 1, none⟩ = some (.string nm) ∧ W.cell? ⟨n, 2, none⟩ = some (.bool on) ∧ W.cell? ⟨n, 5, none⟩ = some (.bool pe) ∧ W.cell? ⟨n, 6, none⟩ = some iv
set_option maxRecDepth 100000 in
set_option maxHeartbeats 8000000 in
theorem view_any (n : Nat) (g nm : ByteArray) (L : EW) (s : EN) (w : World) (h : EdgeAt w n g nm L s) :
    Calls Tryz.prog 12 #[.pointer (some ⟨n, 0, none⟩)] w (ViewPost g nm s w) := by
  have hln : n < w.heap.size := lt_of_heap h.row
  have hil := h.few.1
  have hC := fun W (ho : Own [] w W) => (edge_cells h (S := []) (by simp) W ho).1
  have hN : ∀ W, Own [] w W → W.cell? ⟨n, 0, none⟩ = some (.string g) ∧ W.cell? ⟨n, 1, none⟩ = some (.string nm) := fun W ho => ⟨cell_of_row W n 0 _ _ _ (ho.heap h.row (by simp)), cell_of_row W n 1 _ _ _ (ho.heap h.row (by simp))⟩
  have cC := fun W (ho : Own [] w W) => clone_any L.ia s.items L.ic W ((h.nil' ho).its.at_ (by omega)) (by omega)
  obtain ⟨da, dc, hdv⟩ := h.dvs.sl
  have hX := fun W (ho : Own [] w W) => h.nil' ho
  rw [hdv] at hC
  have hS0 : ∀ W, Own [] w W → S5 n g nm s.online s.pending (.slice L.ia s.items.length L.ic) W := fun W ho => ⟨(hN W ho).1, (hN W ho).2, (hC W ho).1, (hC W ho).2.2.2.1, (hC W ho).2.2.2.2.1⟩
  have hC4 : ∀ W, Own [] w W → W.cell? ⟨n, 4, none⟩ = some (.pointer (some ⟨L.rb, 0, none⟩)) ∧ W.cell? ⟨n, 2, none⟩ = some (.bool s.online) ∧ W.cell? ⟨n, 3, none⟩ = some (.int .i64 s.bd) ∧ W.cell? ⟨n, 8, none⟩ = some (.slice da L.ds.length dc) := fun W ho => ⟨(hC W ho).2.2.1, (hC W ho).1, (hC W ho).2.1, (hC W ho).2.2.2.2.2.2⟩
  have cW : ∀ W t3 a cap, Own [] w W → W.heap[t3]? = some (.cells #[.string g, .string nm, .bool s.online, .int .i64 0, .int .i64 0, .bool s.pending, .slice a s.items.length cap, .slice none 0 0] 45 (0, 0)) → z8 W w.heap.size → OutRow w.heap.size W a cap s.items → (∀ b, a.map (·.block) = some b → b ≠ t3 ∧ b ≠ w.heap.size) → w.heap.size < t3 →
      Calls Tryz.prog 27 #[.pointer (some ⟨L.rb, 0, none⟩)] W fun e w' => e = .returned (.tuple #[.int .i64 (nextV s), .bool s.begun]) ∧ w'.heap[t3]? = some (.cells #[.string g, .string nm, .bool s.online, .int .i64 0, .int .i64 0, .bool s.pending, .slice a s.items.length cap, .slice none 0 0] 45 (0, 0)) ∧ z8 w' w.heap.size ∧ OutRow w.heap.size w' a cap s.items ∧ (∀ b, a.map (·.block) = some b → b ≠ t3 ∧ b ≠ w.heap.size) ∧ w.heap.size < t3 ∧ Own [] w w' ∧ w'.cell? ⟨n, 2, none⟩ = some (.bool s.online) ∧ w'.cell? ⟨n, 3, none⟩ = some (.int .i64 s.bd) ∧ w'.cell? ⟨n, 8, none⟩ = some (.slice da L.ds.length dc) := fun W t3 a cap ho h1 h2 h3 h4 h5 =>
    (Sq.want_any L.rb s.want s.begun W (h.rrow.own ho (by simp))).mono fun e w' ⟨e1, e2⟩ => by
      subst e2
      exact ⟨by rw [e1]; rfl, h1, h2, h3, h4, h5, ho, (hC4 W ho).2.1, (hC4 W ho).2.2.1, (hC4 W ho).2.2.2⟩
  have cN := fun W (ho : Own [] w W) => enone_any n ⟨L.rb, 0, none⟩ W (hC4 W ho).1
  unfold ClonePost at cC
  generalize hits : s.items = its at *
  replace hits := Lib.hid hits
  generalize hnx : nextV s = nx at *
  replace hnx := Lib.hid hnx
  generalize hpe : s.pending = pe at *
  replace hpe := Lib.hid hpe
  generalize hbg : s.begun = bg at *
  replace hbg := Lib.hid hbg
  generalize hon : s.online = on at *
  replace hon := Lib.hid hon
  generalize hbd : s.bd = bd at *
  replace hbd := Lib.hid hbd
  replace hS0 := Lib.hid hS0
  replace hC4 := Lib.hid hC4
  replace cC := Lib.hid cC
  replace cW := Lib.hid cW
  replace cN := Lib.hid cN
  replace hX := Lib.hid hX
  replace hdv := Lib.hid hdv
  clear hC hN h hil
  go_enter Tryz.func12, Tryz.ntmps12
  go_wp2_with (go_at_call 24; refine (cN.out _ ((Own.refl _ _).alloc _)).mono ?_; rintro e w1 ⟨rfl, rfl⟩)
  have hW0 : Own [] w (w.alloc (.cells #[.string ⟨#[]⟩, .string ⟨#[]⟩, .bool false, .int .i64 0, .int .i64 0, .bool false, .slice none 0 0, .slice none 0 0] 45)) := (Own.refl _ _).alloc _
  have hZ0 : ∀ W, Own [] (w.alloc (.cells #[.string ⟨#[]⟩, .string ⟨#[]⟩, .bool false, .int .i64 0, .int .i64 0, .bool false, .slice none 0 0, .slice none 0 0] 45)) W → z8 W w.heap.size := fun W ho => z8_at (ho.heap (heap_alloc_new _ _) (by simp))
  have hs0 : (w.alloc (.cells #[.string ⟨#[]⟩, .string ⟨#[]⟩, .bool false, .int .i64 0, .int .i64 0, .bool false, .slice none 0 0, .slice none 0 0] 45)).heap.size = w.heap.size + 1 := by simp
  generalize w.alloc (.cells #[.string ⟨#[]⟩, .string ⟨#[]⟩, .bool false, .int .i64 0, .int .i64 0, .bool false, .slice none 0 0, .slice none 0 0] 45) = w0 at *
  have hZ1 : ∀ W, Own [] ((w0.alloc (.cells #[.string ⟨#[]⟩, .string ⟨#[]⟩, .bool false, .int .i64 0, .int .i64 0, .bool false, .slice none 0 0, .slice none 0 0] 45)).drew) W → z8 W w0.heap.size := fun W ho => z8_at (((Own.refl [] _).drew.trans ho).heap (heap_alloc_new w0 _) (by simp))
  have hrZ : ((w0.alloc (.cells #[.string ⟨#[]⟩, .string ⟨#[]⟩, .bool false, .int .i64 0, .int .i64 0, .bool false, .slice none 0 0, .slice none 0 0] 45)).drew).heap[w0.heap.size]? = some (.cells #[.string ⟨#[]⟩, .string ⟨#[]⟩, .bool false, .int .i64 0, .int .i64 0, .bool false, .slice none 0 0, .slice none 0 0] 45 (0, 0)) := heap_alloc_new w0 _
  replace hrZ := Lib.hid hrZ
  have hA1 : Own [] w w0.drew := hW0.drew
  have hA2 : Own [] w ((w0.alloc (.cells #[.string ⟨#[]⟩, .string ⟨#[]⟩, .bool false, .int .i64 0, .int .i64 0, .bool false, .slice none 0 0, .slice none 0 0] 45)).drew) := (hW0.alloc _).drew
  have hB1 := fun W (ho : Own [] w0.drew W) => (((Own.refl [] w0).drew).trans ho)
  have hB2 := fun W (ho : Own [] ((w0.alloc (.cells #[.string ⟨#[]⟩, .string ⟨#[]⟩, .bool false, .int .i64 0, .int .i64 0, .bool false, .slice none 0 0, .slice none 0 0] 45)).drew) W) => ((((Own.refl [] w0).alloc _).drew).trans ho)
  obtain ⟨i0, i1, i2, i5, i6⟩ := hS0.out _ hA1
  have i4 := (hC4.out _ hA1).1
  have hlo := Lib.hid (show w.heap.size ≤ w0.heap.size by omega)
  have hne1 : n ≠ w0.heap.size := by omega
  have hne2 : w.heap.size ≠ w0.heap.size := by omega
  have hne3 : n ≠ w.heap.size := by omega
  have hne4 := Ne.symm hne1
  have hne5 := Ne.symm hne2
  have hne6 := Ne.symm hne3
  replace hZ0 := Lib.hid hZ0
  replace hZ1 := Lib.hid hZ1
  replace hs0 := Lib.hid hs0
  replace hA1 := Lib.hid hA1
  replace hA2 := Lib.hid hA2
  replace hB1 := Lib.hid hB1
  replace hB2 := Lib.hid hB2
  go_region_held3 (fun W => W.cell? ⟨n, 0, none⟩ = some (.string g) ∧ W.cell? ⟨n, 1, none⟩ = some (.string nm) ∧ W.cell? ⟨n, 2, none⟩ = some (.bool on) ∧ W.cell? ⟨n, 5, none⟩ = some (.bool pe) ∧ W.cell? ⟨n, 6, none⟩ = some (.slice L.ia its.length L.ic))
    (first | with_reducible exact kA | with_reducible exact hS0.out _ hA1.out | with_reducible exact hS0.out _ hA2.out | with_reducible exact hS0.out _ (hO3w.out.alloc _) | with_reducible exact hS0.out _ (own8 hO3w.out (.inr hlo.out)))
    ((first
      | (go_at_call 26; (with_reducible refine (cC.out _ hA1.out).mono ?_); rintro e w3 ⟨a, cap, rfl, hR3, hO3⟩; have hO3w := hA1.out.trans hO3; have kA := hS0.out _ hO3w; have hOzz := hB1.out _ hO3; have k4 := (hC4.out _ hO3w).1; have hOz3 := Lib.hid hOzz; have hnw : n < w3.heap.size := Nat.lt_of_lt_of_le hln hO3w.size; have hzw : w.heap.size < w3.heap.size := (by have := hOzz.size; have := hs0.out; omega);  have hsz3 := hO3.size; replace hO3w := Lib.hid hO3w; replace hR3 := Lib.hid hR3; replace hO3 := Lib.hid hO3)
      | (go_at_call 26; (with_reducible refine (cC.out _ hA2.out).mono ?_); rintro e w3 ⟨a, cap, rfl, hR3, hO3⟩; have hO3w := hA2.out.trans hO3; have kA := hS0.out _ hO3w; obtain ⟨⟨c0, c1, c2, c3, c4, c5, c6, c7⟩, f0, f1, f2, f3, f4, f5, f6, f7⟩ := hZ1.out _ hO3; have hrT := Lib.hid (hO3.heap hrZ.out (by simp)); have hoa2 := Lib.hid (show ∀ b, a.map (·.block) = some b → w0.heap.size + 1 ≤ b from fun b hb => by cases a with | none => cases hb | some q => cases hb; have := hR3.fresh q rfl; simpa using this); have hOzz := hB2.out _ hO3; have k4 := (hC4.out _ hO3w).1; have hOz3 := Lib.hid hOzz; have hnw : n < w3.heap.size := Nat.lt_of_lt_of_le hln hO3w.size; have hzw : w.heap.size < w3.heap.size := (by have := hOzz.size; have := hs0.out; omega);  have hsz3 := hO3.size; replace hO3w := Lib.hid hO3w; replace hR3 := Lib.hid hR3; replace hO3 := Lib.hid hO3)))
  have hz1 : w0.drew.heap.size = w0.heap.size := rfl
  have hoa : ∀ b, a.map (·.block) = some b → w0.heap.size ≤ b ∧ b < w3.heap.size := fun b hb => by
    refine ⟨?_, hR3.out.blt hb⟩
    cases a with
    | none => cases hb
    | some q => cases hb; have := hR3.out.fresh q rfl; simp at this; omega
  have cV := cW.out (w3.alloc (.cells #[.string g, .string nm, .bool on, .int .i64 0, .int .i64 0, .bool pe, .slice a its.length cap, .slice none 0 0] 45)) w3.heap.size a cap (hO3w.out.alloc _) (heap_alloc_new _ _) (hZ0.out _ (hOz3.out.alloc _)) ⟨(hR3.out.nil' ((Own.refl _ _).alloc _)).own, fun q hq => Nat.le_trans hlo.out (hoa _ (by rw [hq]; rfl)).1, hR3.out.good⟩ (fun b hb => by have := hoa b hb; have := hs0.out; omega) hzw
  replace cV := Lib.hid cV
  clear hoa hz1
  have k5 := (hC4.out _ (hO3w.out.alloc (.cells #[.string g, .string nm, .bool on, .int .i64 0, .int .i64 0, .bool pe, .slice a its.length cap, .slice none 0 0] 45))).1
  generalize w3.heap.size = t3 at *
  rotate_left
  have hz1 : w0.drew.heap.size = w0.heap.size := rfl
  have hoa : ∀ b, a.map (·.block) = some b → w0.heap.size ≤ b ∧ b < w3.heap.size := fun b hb => by
    exact ⟨by have := hoa2.out b hb; omega, hR3.out.blt hb⟩
  have cV := cW.out ((((((((w3.setCell ⟨w0.heap.size, 0, none⟩ (.string g)).setCell ⟨w0.heap.size, 1, none⟩ (.string nm)).setCell ⟨w0.heap.size, 2, none⟩ (.bool on)).setCell ⟨w0.heap.size, 3, none⟩ (.int .i64 0)).setCell ⟨w0.heap.size, 4, none⟩ (.int .i64 0)).setCell ⟨w0.heap.size, 5, none⟩ (.bool pe)).setCell ⟨w0.heap.size, 6, none⟩ (.slice a its.length cap)).setCell ⟨w0.heap.size, 7, none⟩ (.slice none 0 0)) w0.heap.size a cap (own8 hO3w.out (.inr hlo.out)) (row8 hrT.out) (hZ0.out _ (own8 hOz3.out (.inr (Nat.le_refl _)))) ⟨(hR3.out.own' (own8 (S := [w0.heap.size]) (Own.refl _ _) (.inl (by simp))) (fun b hb => by have := hoa2.out b hb; simp; omega)).own, fun q hq => Nat.le_trans hlo.out (hoa _ (by rw [hq]; rfl)).1, hR3.out.good⟩ (fun b hb => by have := hoa2.out b hb; have := hs0.out; omega) (by have := hs0.out; omega)
  replace cV := Lib.hid cV
  clear hoa hz1
  generalize w0.heap.size = t3 at *
  rotate_left
  all_goals
    cases on
  all_goals
    go_wp2_with (go_at_call 27; (with_reducible refine cV.out.mono ?_); rintro e w5 ⟨rfl, hr5, hz5, hR5, hn5, ht5, hO5, j2, j3, j8⟩; obtain ⟨⟨c0, c1, c2, c3, c4, c5, c6, c7⟩, f0, f1, f2, f3, f4, f5, f6, f7⟩ := blk8 hr5; have ht6 := Nat.ne_of_lt ht5; replace hz5 := Lib.hid hz5; replace hr5 := Lib.hid hr5; replace hR5 := Lib.hid hR5; replace hn5 := Lib.hid hn5; replace ht5 := Lib.hid ht5; replace hO5 := Lib.hid hO5)
  all_goals
    have hV5 : VL w w5 w.heap.size t3 a cap its (.slice none 0 0) [] [] := ⟨hR5.out, Sl.nil _ _ _, ⟨rfl, fun i v x hv => by simp at hv⟩, hO5.out, ⟨Nat.le_refl _, Nat.le_of_lt ht5.out⟩, fun b hb => ⟨(hn5.out b hb).2, (hn5.out b hb).1, by simp [Value.ownBlock]⟩, by simp, by simp [Value.ownBlock]⟩
    first
      | (obtain ⟨w6, bv, ob, hbv, hob, hw6, hV6, hr6, hz6, h6⟩ : ∃ (w6 : World) (bv : Int) (ob : Bool), bv = bd ∧ ob = true ∧ (w5.setCell ⟨t3, 4, none⟩ (.int .i64 nx)).setCell ⟨t3, 3, none⟩ (.int .i64 bd) = w6 ∧ VL w w6 w.heap.size t3 a cap its (.slice none 0 0) [] [] ∧ w6.heap[t3]? = some (.cells #[.string g, .string nm, .bool ob, .int .i64 bv, .int .i64 nx, .bool pe, .slice a its.length cap, .slice none 0 0] 45 (0, 0)) ∧ z8 w6 w.heap.size ∧ w.heap.size < w6.heap.size ∧ t3 < w6.heap.size := by
          have hO : Own [t3] w5 ((w5.setCell ⟨t3, 4, none⟩ (.int .i64 nx)).setCell ⟨t3, 3, none⟩ (.int .i64 bd)) := ((Own.refl _ _).setCell (.inl (by simp)) _).setCell (.inl (by simp)) _
          refine ⟨_, bd, true, rfl, rfl, rfl, hV5.own' hO (by simp), heap_setCell_same _ _ _ _ _ _ (heap_setCell_same _ _ _ _ _ _ hr5.out), ?_, ?_, ?_⟩
          · exact z8_own hz5.out hO (by simpa using ht6)
          · have := hO.size; have := lt_of_heap hr5.out; have := ht5.out; omega
          · have := hO.size; have := lt_of_heap hr5.out; omega
         rw [hw6])
      | (obtain ⟨w6, bv, ob, hbv, hob, hw6, hV6, hr6, hz6, h6⟩ : ∃ (w6 : World) (bv : Int) (ob : Bool), bv = 0 ∧ ob = false ∧ w5.setCell ⟨t3, 4, none⟩ (.int .i64 nx) = w6 ∧ VL w w6 w.heap.size t3 a cap its (.slice none 0 0) [] [] ∧ w6.heap[t3]? = some (.cells #[.string g, .string nm, .bool ob, .int .i64 bv, .int .i64 nx, .bool pe, .slice a its.length cap, .slice none 0 0] 45 (0, 0)) ∧ z8 w6 w.heap.size ∧ w.heap.size < w6.heap.size ∧ t3 < w6.heap.size := by
          have hO : Own [t3] w5 (w5.setCell ⟨t3, 4, none⟩ (.int .i64 nx)) := (Own.refl _ _).setCell (.inl (by simp)) _
          refine ⟨_, 0, false, rfl, rfl, rfl, hV5.own' hO (by simp), heap_setCell_same _ _ _ _ _ _ hr5.out, ?_, ?_, ?_⟩
          · exact z8_own hz5.out hO (by simpa using ht6)
          · have := hO.size; have := lt_of_heap hr5.out; have := ht5.out; omega
          · have := hO.size; have := lt_of_heap hr5.out; omega
         rw [hw6])
  all_goals
    have hDL := Lib.hid (hX.out w (Own.refl _ _)).len
    have hD4 : L.ds.length ≤ 4 := by have := (hX.out w (Own.refl _ _)).few.2.2; have := hDL.out; omega
    have hrt : w.heap.size ≠ t3 := ht6
    replace hbv := Lib.hid hbv
    replace hob := Lib.hid hob
    replace hrt := Lib.hid hrt
    clear hV5 hw6 hr5 hz5 hR5 hn5 ht5 hO5 j2 j3 j8 c0 c1 c2 c3 c4 c5 c6 c7 f0 f1 f2 f3 f4 f5 f6 f7 ht6 cV i0 i1 i2 i4 i5 i6 hne1 hne2 hne3 hne4 hne5 hne6 kA k4 hOzz hOz3 hnw hzw hsz3 hO3w hR3 hO3 hB1 hB2 hZ0 hZ1 hs0 hA1 hA2 hrZ hlo hW0 cC cN hS0 hC4 cW hln
    go_loopg [54] L.ds.length (fun m s54 wr => ∃ (k : Nat) (vv : Value) (V : List DV), k ≤ L.ds.length ∧ m = L.ds.length - k ∧ s54 = .int .i64 k ∧
      Aside (VL w wr w.heap.size t3 a cap its vv V (s.dev.take k) ∧ wr.heap[t3]? = some (.cells #[.string g, .string nm, .bool ob, .int .i64 bv, .int .i64 nx, .bool pe, .slice a its.length cap, vv] 45 (0, 0)) ∧ z8 wr w.heap.size ∧ (w.heap.size < wr.heap.size ∧ t3 < wr.heap.size)))
    case atStart => exact ⟨0, _, [], Nat.zero_le _, rfl, rfl, by simpa using hV6, hr6, hz6, h6⟩
    case round =>
      obtain ⟨k, vv, V, hk, rfl, rfl, hV, hr, hz, hl⟩ := hrel
      by_cases hlt : k < L.ds.length
      · have hkx : k < s.dev.length := by rw [hDL.out]; exact hlt
        have hE := hX.out wr hV.own
        have hDev := hE.devs k _ _ (List.getElem?_eq_getElem hlt) (List.getElem?_eq_getElem hkx)
        have hdr : Own [] wr wr.drew := (Own.refl _ _).drew
        have cD := dview_st L.ds[k] s.dev[k] wr wr.drew (hDev.nil' hdr) hdr
        have eD : ∀ args w, (callFunc 28 args).run Tryz.prog w = .ok (.enter 28 args) w := enters_of Tryz.func28 (by kernel_rfl) rfl
        obtain ⟨gb, hgb⟩ : ∃ gb, da = some ⟨gb, 0, none⟩ ∧ wr.cell? ⟨gb, k, none⟩ = some (.pointer (some ⟨L.ds[k].blk, 0, none⟩)) := by
          rcases hE.dvs.form with ⟨h1, h2⟩ | ⟨gb, cp, h1, _, hR⟩
          · rw [h2] at hlt; simp at hlt
          · rw [hdv.out] at h1
            cases h1
            have := hR.cell dEnc_len (List.getElem?_eq_getElem hlt) (show (dEnc L.ds[k])[0]? = _ from rfl)
            exact ⟨gb, rfl, by simpa using this⟩
        obtain ⟨rfl, hcell⟩ := hgb
        obtain ⟨sa, sc, rfl⟩ := hV.sl.sl
        have h7 : ∀ W, Own [] wr W → W.cell? ⟨t3, 7, none⟩ = some (.slice sa V.length sc) := fun W ho => cell_of_row W t3 7 _ _ _ (ho.heap hr (by simp))
        have h7d := h7 _ hdr
        have hvl : V.length ≤ 4 := by have := hV.dvs.1; simp at this; omega
        have htk : s.dev.take (k + 1) = s.dev.take k ++ [s.dev[k]] := by rw [List.take_succ_eq_append_getElem hkx]
        generalize s.dev[k] = x at *
        generalize hdb : L.ds[k].blk = db at *
        replace htk := Lib.hid htk
        replace hV := Lib.hid hV
        replace hr := Lib.hid hr
        replace hz := Lib.hid hz
        replace hl := Lib.hid hl
        replace cD := Lib.hid cD
        replace eD := Lib.hid eD
        replace h7 := Lib.hid h7
        have hl1 := Lib.hid (show (V.length + 1) * 48 ≤ 140737488355328 by omega)
        have hl2 := Lib.hid (show V.length + 1 ≤ maxLen by unfold maxLen; omega)
        clear hDev hE hdr hV6 hr6 hz6 h6 hdb
        go_wp2_with fail
        go_region_law ((first
          | ((refine stepCall rfl 28 _ _ (by rfl) (by simp [Act.eval, Act.put]) eD.out cD.out ?_); intro va wa hva; obtain ⟨ad, cd, rfl, hRa, hOa⟩ := hva; have kA := h7.out wa hOa; have kB := h7.out _ (hOa.alloc (.cells #[.string x.name, .bool x.on, .slice ad x.items.length cd] 56)); have hRb := Reads.new (enc := vEnc) (T := 56) wa ⟨x.name, x.on, ad, x.items.length, cd⟩ 1; replace hRb := Lib.hid hRb; have hOb := Lib.hid (hV.out.own.trans (hOa.alloc (.cells #[.string x.name, .bool x.on, .slice ad x.items.length cd] 56))); have hSb := Lib.hid (hV.out.sl.nil' (hOa.alloc (.cells #[.string x.name, .bool x.on, .slice ad x.items.length cd] 56))); replace hRa := Lib.hid hRa; replace hOa := Lib.hid hOa)
          | ((refine stepAppend rfl (.tmp 59) (.tmp 62) (by rfl) vElem hOb.out (by rfl) hSb.out (by rfl) hRb.out (by simpa using hl1.out) (by simpa using hl2.out) ?_); intro va w5 hS5 hO5 hg5 hX5; obtain ⟨a5, c5, rfl⟩ := hS5.sl; rw [List.length_append, List.length_singleton] at hS5 hg5; have hr5 := hX5.heap ((hOa.out.alloc (.cells #[.string x.name, .bool x.on, .slice ad x.items.length cd] 56)).heap hr.out (by simp)) (fun hx => (hV.out.n3 _ (Option.mem_toList.1 hx)).2 rfl); have kC : w5.cell? ⟨t3, 7, none⟩ = some (.slice sa V.length sc) := cell_of_row w5 t3 7 _ _ _ hr5; have f5 : w5.frozen? ⟨t3, 7, none⟩ = false := frozen_of_row _ _ _ _ _ hr5; replace hS5 := Lib.hid hS5; replace hO5 := Lib.hid hO5; replace hg5 := Lib.hid hg5; replace hX5 := Lib.hid hX5; replace hr5 := Lib.hid hr5)))
        all_goals
          have hVp := hV.out.push hl.out ⟨rfl, rfl, rfl, hRa.out⟩ hOa.out ((Own.refl _ _).alloc _) hS5.out hX5.out hg5.out
          have hOt : Own [t3] w5 (w5.setCell ⟨t3, 7, none⟩ (.slice a5 (V.length + 1) c5)) := (Own.refl _ _).setCell (.inl (by simp)) _
          have hV7 := hVp.own' hOt (by simp)
          have hr7 := heap_setCell_same _ _ 7 _ _ (.slice a5 (V.length + 1) c5) hr5.out
          have hOz : Own (Value.slice sa V.length sc).ownBlock.toList wr w5 := (hOa.out.nil.trans ((Own.refl _ _).alloc _).nil).trans hX5.out
          have hz7 := z8_own (z8_own hz.out hOz (fun hx => (hV.out.n3 _ (Option.mem_toList.1 hx)).1 rfl)) hOt (by simpa using hrt.out)
          have hs7 := Nat.le_trans hOz.size hOt.size
          rw [← htk.out] at hV7
          have hfin := Lib.hid (And.intro hV7 (And.intro hr7 (And.intro hz7 (And.intro (Nat.lt_of_lt_of_le hl.out.1 hs7) (Nat.lt_of_lt_of_le hl.out.2 hs7)))))
          clear hVp hOt hV7 hr7 hOz hz7 hs7 kA kB kC f5
          go_wp2_with fail
          go_roundg (L.ds.length - (k + 1))
          case rel => exact ⟨k + 1, _, _, by omega, rfl, by go_num, hfin.out⟩
          case measure => omega
      · have hke : k = L.ds.length := by omega
        have hte : s.dev.take k = s.dev := List.take_of_length_le (by rw [hDL.out]; omega)
        rw [hte] at hV
        obtain ⟨sa, sc, rfl⟩ := hV.sl.sl
        have hfin : ∀ w', Own [w.heap.size] wr w' → OutRow w.heap.size w' a cap its ∧ Sl 56 vEnc 3 w.heap.size w' (.slice sa V.length sc) V ∧ DVs w.heap.size w' V s.dev ∧ Own [] w w' := fun w' ho => by
          have := hV.own' ho (by simp)
          exact ⟨this.out, this.sl, this.dvs, this.own⟩
        replace hfin := Lib.hid hfin
        obtain ⟨⟨c0, c1, c2, c3, c4, c5, c6, c7⟩, f0, f1, f2, f3, f4, f5, f6, f7⟩ := blk8 hr
        obtain ⟨⟨d0, d1, d2, d3, d4, d5, d6, d7⟩, e0, e1, e2, e3, e4, e5, e6, e7⟩ := hz
        have hrt1 := hrt.out
        replace hke := Lib.hid hke
        clear hV hr hte hl hV6 hr6 hz6 h6
        go_wp2_with fail
        refine bodyPost_ret (v := .agg #[.string g, .string nm, .bool ob, .int .i64 bv, .int .i64 nx, .bool pe, .slice a its.length cap, .slice sa V.length sc]) (by simp [results, Tryz.results12, go_sem, d0, d1, d2, d3, d4, d5, d6, d7]) rfl (viewPost_mk (hon.out.trans hob.out.symm) (by unfold bdV; rw [hon.out, hbv.out]; first | rfl | (rw [hbd.out]; rfl)) hnx.out hpe.out hits.out (hfin.out _ ?_))
        repeat (first | refine Own.setCell ?_ (.inl (by simp)) _ | with_reducible exact Own.refl _ _)
end Go.Proofs.YtjfmbjgniajagaaGreatDoor
