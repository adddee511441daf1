/- Package payload: Seq, Bd. -/
import Derived.Test.YtjfmbjgniajagaaGreatDoorItemsMem
import Derived.Test.YtjfmbjgniajagaaGreatDoorItemsFind2
import Derived.Test.YtjfmbjgniajagaaGreatDoorItemsBorn
import Derived.Deep.LoopGhost
import Derived.StillTailTactics
import Derived.Laws.StructEq
namespace Go.Proofs.YtjfmbjgniajagaaGreatDoor
open Go.RowKit

/-- A payload. -/
structure Pay where
  t : Int
  h : Bool
  s : Int
  u : ByteArray
  b : ByteArray
  a : Option Addr
  M : List Met
  c : Nat
def Pay.val (p : Pay) : Value := .agg #[.int .u64 p.t, .bool p.h, .int .u64 p.s, .string p.u, .string p.b, .slice p.a p.M.length p.c]
def smallN (n : Int) : Int × Bool := if 256 ≤ n then (0, false) else (n, true)
def Pay.seq (p : Pay) : Int × Bool := if p.h = true then smallN p.s else (0, false)
def metFind (M : List Met) (nm : ByteArray) : Option Met := M.find? fun m => m.name == nm
def bdName : ByteArray := ⟨#[98, 100, 83, 101, 113]⟩
def Pay.bd (p : Pay) : Int × Bool := match metFind p.M bdName with
  | none => (0, false)
  | some m => if m.null = true then (0, false) else if m.vk = 1 ∨ m.vk = 2 then smallN m.vn else (0, false)

theorem blk15 {w : World} {b : Nat} {v0 v1 v2 v3 v4 v5 v6 v7 v8 v9 v10 v11 v12 v13 v14 : Value} {T : TypeId} (h : w.heap[b]? = some (.cells #[v0, v1, v2, v3, v4, v5, v6, v7, v8, v9, v10, v11, v12, v13, v14] T (0, 0))) :
    (w.cell? ⟨b, 0, none⟩ = some v0 ∧ w.cell? ⟨b, 1, none⟩ = some v1 ∧ w.cell? ⟨b, 2, none⟩ = some v2 ∧ w.cell? ⟨b, 3, none⟩ = some v3 ∧ w.cell? ⟨b, 4, none⟩ = some v4 ∧ w.cell? ⟨b, 5, none⟩ = some v5 ∧ w.cell? ⟨b, 6, none⟩ = some v6 ∧ w.cell? ⟨b, 7, none⟩ = some v7 ∧ w.cell? ⟨b, 8, none⟩ = some v8 ∧ w.cell? ⟨b, 9, none⟩ = some v9 ∧ w.cell? ⟨b, 10, none⟩ = some v10 ∧ w.cell? ⟨b, 11, none⟩ = some v11 ∧ w.cell? ⟨b, 12, none⟩ = some v12 ∧ w.cell? ⟨b, 13, none⟩ = some v13 ∧ w.cell? ⟨b, 14, none⟩ = some v14) ∧
    (w.frozen? ⟨b, 0, none⟩ = false ∧ w.frozen? ⟨b, 1, none⟩ = false ∧ w.frozen? ⟨b, 2, none⟩ = false ∧ w.frozen? ⟨b, 3, none⟩ = false ∧ w.frozen? ⟨b, 4, none⟩ = false ∧ w.frozen? ⟨b, 5, none⟩ = false ∧ w.frozen? ⟨b, 6, none⟩ = false ∧ w.frozen? ⟨b, 7, none⟩ = false ∧ w.frozen? ⟨b, 8, none⟩ = false ∧ w.frozen? ⟨b, 9, none⟩ = false ∧ w.frozen? ⟨b, 10, none⟩ = false ∧ w.frozen? ⟨b, 11, none⟩ = false ∧ w.frozen? ⟨b, 12, none⟩ = false ∧ w.frozen? ⟨b, 13, none⟩ = false ∧ w.frozen? ⟨b, 14, none⟩ = false) :=
  ⟨⟨blk_cell h rfl, blk_cell h rfl, blk_cell h rfl, blk_cell h rfl, blk_cell h rfl, blk_cell h rfl, blk_cell h rfl, blk_cell h rfl, blk_cell h rfl, blk_cell h rfl, blk_cell h rfl, blk_cell h rfl, blk_cell h rfl, blk_cell h rfl, blk_cell h rfl⟩, blk_free h 0, blk_free h 1, blk_free h 2, blk_free h 3, blk_free h 4, blk_free h 5, blk_free h 6, blk_free h 7, blk_free h 8, blk_free h 9, blk_free h 10, blk_free h 11, blk_free h 12, blk_free h 13, blk_free h 14⟩
theorem own15 {S : List Nat} {w w' : World} {b : Nat} {v0 v1 v2 v3 v4 v5 v6 v7 v8 v9 v10 v11 v12 v13 v14 : Value} (h : Own S w w') (hb : b ∈ S ∨ w.heap.size ≤ b) : Own S w (((((((((((((((w'.setCell ⟨b, 0, none⟩ v0).setCell ⟨b, 1, none⟩ v1).setCell ⟨b, 2, none⟩ v2).setCell ⟨b, 3, none⟩ v3).setCell ⟨b, 4, none⟩ v4).setCell ⟨b, 5, none⟩ v5).setCell ⟨b, 6, none⟩ v6).setCell ⟨b, 7, none⟩ v7).setCell ⟨b, 8, none⟩ v8).setCell ⟨b, 9, none⟩ v9).setCell ⟨b, 10, none⟩ v10).setCell ⟨b, 11, none⟩ v11).setCell ⟨b, 12, none⟩ v12).setCell ⟨b, 13, none⟩ v13).setCell ⟨b, 14, none⟩ v14) :=
  ((((((((((((((h.setCell hb _).setCell hb _).setCell hb _).setCell hb _).setCell hb _).setCell hb _).setCell hb _).setCell hb _).setCell hb _).setCell hb _).setCell hb _).setCell hb _).setCell hb _).setCell hb _).setCell hb _
theorem At15.all {w : World} {b q : Nat} {nm vs : ByteArray} {hs hi_ tr nu : Bool} {al ti ty vk vn : Int} {x1 x2 x3 x4 : Option Addr} {y1 z1 y2 z2 y3 z3 y4 z4 : Nat} (h : At15 w b q ⟨nm, hs, al, ti, ty, hi_, tr, nu, ⟨x1, y1, z1⟩, ⟨x2, y2, z2⟩, vk, vn, vs, ⟨x3, y3, z3⟩, ⟨x4, y4, z4⟩⟩) :
    w.cell? ⟨b, q, none⟩ = some (.string nm) ∧ w.cell? ⟨b, q + 1, none⟩ = some (.bool hs) ∧ w.cell? ⟨b, q + 2, none⟩ = some (.int .u64 al) ∧ w.cell? ⟨b, q + 3, none⟩ = some (.int .u64 ti) ∧ w.cell? ⟨b, q + 4, none⟩ = some (.int .u32 ty) ∧ w.cell? ⟨b, q + 5, none⟩ = some (.bool hi_) ∧ w.cell? ⟨b, q + 6, none⟩ = some (.bool tr) ∧ w.cell? ⟨b, q + 7, none⟩ = some (.bool nu) ∧ w.cell? ⟨b, q + 8, none⟩ = some (.slice x1 y1 z1) ∧ w.cell? ⟨b, q + 9, none⟩ = some (.slice x2 y2 z2) ∧ w.cell? ⟨b, q + 10, none⟩ = some (.int .i64 vk) ∧ w.cell? ⟨b, q + 11, none⟩ = some (.int .u64 vn) ∧ w.cell? ⟨b, q + 12, none⟩ = some (.string vs) ∧ w.cell? ⟨b, q + 13, none⟩ = some (.slice x3 y3 z3) ∧ w.cell? ⟨b, q + 14, none⟩ = some (.slice x4 y4 z4) :=
  ⟨h 0 _ rfl, h 1 _ rfl, h 2 _ rfl, h 3 _ rfl, h 4 _ rfl, h 5 _ rfl, h 6 _ rfl, h 7 _ rfl, h 8 _ rfl, h 9 _ rfl, h 10 _ rfl, h 11 _ rfl, h 12 _ rfl, h 13 _ rfl, h 14 _ rfl⟩

set_option maxHeartbeats 1000000 in
theorem psmall_any (n : Int) (w : World) (h0 : 0 ≤ n) : Calls Tryz.prog 80 #[.int .u64 n] w fun e w' => e = .returned (.tuple #[.int .i64 (smallN n).1, .bool (smallN n).2]) ∧ w = w' := by
  unfold smallN
  by_cases h : 256 ≤ n
  · rw [if_pos h]
    go_enter Tryz.func80, Tryz.ntmps80
    go_wp2_with fail
    go_ret2
    exact ⟨rfl, rfl⟩
  · rw [if_neg h]
    have h1 : n < 256 := by omega
    have hw : IntKind.i64.wrap n = n := IntWalk.i64_in _ (by omega)
    go_enter Tryz.func80, Tryz.ntmps80
    go_wp2_with fail
    go_ret2
    exact ⟨rfl, rfl⟩
set_option maxHeartbeats 1000000 in
theorem pseq_any (p : Pay) (w : World) (h0 : 0 ≤ p.s) : Calls Tryz.prog 49 #[p.val] w fun e w' => e = .returned (.tuple #[.int .i64 p.seq.1, .bool p.seq.2]) ∧ Own [] w w' := by
  obtain ⟨t, h, s, u, b, a, M, c⟩ := p
  unfold Pay.seq Pay.val
  have hO : Own [] w (w.alloc (.cells #[.int .u64 t, .bool h, .int .u64 s, .string u, .string b, .slice a M.length c] 39)) := (Own.refl _ _).alloc _
  have cS := fun W => psmall_any s W h0
  simp only
  generalize smallN s = r at cS ⊢
  obtain ⟨r1, r2⟩ := r
  replace hO := Lib.hid hO
  replace cS := Lib.hid cS
  cases h
  · go_enter Tryz.func49, Tryz.ntmps49
    go_wp2_with fail
    go_ret2
    exact ⟨rfl, hO.out⟩
  · go_enter Tryz.func49, Tryz.ntmps49
    go_wp2_with (go_at_call 80; (with_reducible refine (cS.out _).mono ?_); rintro e w2 ⟨rfl, rfl⟩)
    go_ret2
    exact ⟨rfl, hO.out⟩

set_option maxRecDepth 100000 in
set_option maxHeartbeats 1000000 in
theorem pname_any (m : Met) (key : ByteArray) (kb : Nat) (w : World) (hk : w.cell? ⟨kb, 0, none⟩ = some (.string key)) :
    Calls Tryz.prog 105 #[m.val, .pointer (some ⟨kb, 0, none⟩)] w fun e w' => e = .returned (.bool (m.name.toList == key.toList)) ∧ w' = w.alloc (.cells m.cells.toArray 36) := by
  obtain ⟨nm, hs, al, ti, ty, hi_, tr, nu, ⟨x1, y1, z1⟩, ⟨x2, y2, z2⟩, vk, vn, vs, ⟨x3, y3, z3⟩, ⟨x4, y4, z4⟩⟩ := m
  unfold Met.val Met.cells
  have hlt := block_lt_of_cell hk
  have hk2 : (w.alloc (.cells #[.string nm, .bool hs, .int .u64 al, .int .u64 ti, .int .u32 ty, .bool hi_, .bool tr, .bool nu, .slice x1 y1 z1, .slice x2 y2 z2, .int .i64 vk, .int .u64 vn, .string vs, .slice x3 y3 z3, .slice x4 y4 z4] 36)).cell? ⟨kb, 0, none⟩ = some (.string key) := (World.cell?_alloc_lt _ _ _ hlt).trans hk
  go_enter Tryz.func105, Tryz.ntmps105
  go_wp2_with fail
  go_ret
  exact ⟨rfl, rfl⟩
theorem peq_toList (x y : ByteArray) : (x == y) = (x.toList == y.toList) := beq_toListBytes x y
def FirstPost (M : List Met) (nm : ByteArray) (w : World) (e : Ending) (w' : World) : Prop := (match metFind M nm with
  | none => e = .returned (.tuple #[Met.zero.val, .bool false])
  | some m => e = .returned (.tuple #[m.val, .bool true])) ∧ Own [] w w'
theorem metFind_some {M : List Met} {nm : ByteArray} {k : Nat} (hk : k < M.length) (h0 : ∀ j m, j < k → M[j]? = some m → (m.name == nm) = false) (h1 : (M[k].name == nm) = true) : metFind M nm = some M[k] := by
  unfold metFind
  induction M generalizing k with
  | nil => simp at hk
  | cons x r ih =>
    cases k with
    | zero => simp only [List.getElem_cons_zero] at h1; simp [h1]
    | succ k =>
      have hx := h0 0 x (by omega) rfl
      simp only [List.find?_cons, hx]
      simp only [List.getElem_cons_succ] at h1 ⊢
      exact ih (by simpa using hk) (fun j m hj hm => h0 (j + 1) m (by omega) (by simpa using hm)) h1
theorem metFind_none {M : List Met} {nm : ByteArray} (h0 : ∀ j m, j < M.length → M[j]? = some m → (m.name == nm) = false) : metFind M nm = none := by
  unfold metFind
  refine List.find?_eq_none.2 fun m hm => ?_
  obtain ⟨j, hj, rfl⟩ := List.getElem_of_mem hm
  have := h0 j _ hj (List.getElem?_eq_getElem hj)
  simp [this]

set_option maxRecDepth 100000 in
set_option maxHeartbeats 8000000 in
theorem pfirst_any (a : Option Addr) (M : List Met) (c : Nat) (key : ByteArray) (kb : Nat) (w : World) (hM : MetsAt w a M) (hk : w.cell? ⟨kb, 0, none⟩ = some (.string key)) :
    Calls Tryz.prog 104 #[.slice a M.length c, .func (.func 105) #[] #[.pointer (some ⟨kb, 0, none⟩)]] w (FirstPost M key w) := by
  have hl := hM.1
  have hw0 : Own [] w (w.alloc (.cells #[.string ⟨#[]⟩, .bool false, .int .u64 0, .int .u64 0, .int .u32 0, .bool false, .bool false, .bool false, .slice none 0 0, .slice none 0 0, .int .i64 0, .int .u64 0, .string ⟨#[]⟩, .slice none 0 0, .slice none 0 0] 36)) := (Own.refl _ _).alloc _
  have hrow : (w.alloc (.cells #[.string ⟨#[]⟩, .bool false, .int .u64 0, .int .u64 0, .int .u32 0, .bool false, .bool false, .bool false, .slice none 0 0, .slice none 0 0, .int .i64 0, .int .u64 0, .string ⟨#[]⟩, .slice none 0 0, .slice none 0 0] 36)).heap[w.heap.size]? = some (.cells #[.string ⟨#[]⟩, .bool false, .int .u64 0, .int .u64 0, .int .u32 0, .bool false, .bool false, .bool false, .slice none 0 0, .slice none 0 0, .int .i64 0, .int .u64 0, .string ⟨#[]⟩, .slice none 0 0, .slice none 0 0] 36 (0, 0)) := heap_alloc_new _ _
  have hM0 := hM.nil' hw0
  have hk0 : ∀ W, Own [] (w.alloc (.cells #[.string ⟨#[]⟩, .bool false, .int .u64 0, .int .u64 0, .int .u32 0, .bool false, .bool false, .bool false, .slice none 0 0, .slice none 0 0, .int .i64 0, .int .u64 0, .string ⟨#[]⟩, .slice none 0 0, .slice none 0 0] 36)) W → W.cell? ⟨kb, 0, none⟩ = some (.string key) := fun W ho => ((hw0.trans ho).cell (block_lt_of_cell hk) (by simp)).trans hk
  have cP := fun m W (ho : Own [] (w.alloc (.cells #[.string ⟨#[]⟩, .bool false, .int .u64 0, .int .u64 0, .int .u32 0, .bool false, .bool false, .bool false, .slice none 0 0, .slice none 0 0, .int .i64 0, .int .u64 0, .string ⟨#[]⟩, .slice none 0 0, .slice none 0 0] 36)) W) => pname_any m key kb W (hk0 W ho)
  have hb0 := fun W (ho : Own [] (w.alloc (.cells #[.string ⟨#[]⟩, .bool false, .int .u64 0, .int .u64 0, .int .u32 0, .bool false, .bool false, .bool false, .slice none 0 0, .slice none 0 0, .int .i64 0, .int .u64 0, .string ⟨#[]⟩, .slice none 0 0, .slice none 0 0] 36)) W) => blk15 (ho.heap hrow (by simp))
  replace hM0 := Lib.hid hM0
  replace hw0 := Lib.hid hw0
  replace cP := Lib.hid cP
  replace hb0 := Lib.hid hb0
  clear hrow hk0 hk hM
  go_enter Tryz.func104, Tryz.ntmps104
  go_wp2_with fail
  go_loopg [11] M.length (fun g s11 wr => ∃ (k : Nat), k ≤ M.length ∧ g = M.length - k ∧ s11 = .int .i64 k ∧ Aside (Own [] (w.alloc (.cells #[.string ⟨#[]⟩, .bool false, .int .u64 0, .int .u64 0, .int .u32 0, .bool false, .bool false, .bool false, .slice none 0 0, .slice none 0 0, .int .i64 0, .int .u64 0, .string ⟨#[]⟩, .slice none 0 0, .slice none 0 0] 36)) wr ∧ ∀ j m, j < k → M[j]? = some m → (m.name == key) = false))
  case atStart => exact ⟨0, by omega, by omega, rfl, Own.refl _ _, fun j m hj => by omega⟩
  case round =>
    obtain ⟨k, hk, rfl, rfl, hO, h0⟩ := hrel
    have k0 : (0 : Int) ≤ k := by omega
    by_cases hlt : k < M.length
    · have k1 : (k : Int) < M.length := by omega
      have hwk : IntKind.i64.wrap ((k : Int) + 1) = (k : Int) + 1 := IntWalk.i64_in _ (by omega)
      obtain ⟨b, o, rfl, hb, hwf, hc⟩ := (hM0.out.nil' hO).met hlt
      have hx := List.getElem?_eq_getElem hlt
      have hsm := metFind_some (nm := key) hlt h0
      generalize M[k] = x at hc hwf hx hsm
      have hn : (x.name == key) = (x.name.toList == key.toList) := peq_toList _ _
      have cP1 := fun (W : World) (hW : Own [] (w.alloc (.cells #[.string ⟨#[]⟩, .bool false, .int .u64 0, .int .u64 0, .int .u32 0, .bool false, .bool false, .bool false, .slice none 0 0, .slice none 0 0, .int .i64 0, .int .u64 0, .string ⟨#[]⟩, .slice none 0 0, .slice none 0 0] 36)) W) => cP.out x W hW
      have hc15 : At15 wr b (o + k * 15) x := hc
      clear hc
      have hnext : (x.name == key) = false → ∀ j m, j < k + 1 → M[j]? = some m → (m.name == key) = false := fun h j m hj hm => by
        rcases Nat.lt_or_ge j k with h3 | h3
        · exact h0 j m h3 hm
        · obtain rfl : j = k := by omega
          rw [hx] at hm; cases hm; exact h
      obtain ⟨nm, hs, al, ti, ty, hi_, tr, nu, ⟨x1, y1, z1⟩, ⟨x2, y2, z2⟩, vk, vn, vs, ⟨x3, y3, z3⟩, ⟨x4, y4, z4⟩⟩ := x
      simp only [Met.val, Met.cells] at cP1 hn hsm hnext
      have hOm := hO.alloc (.cells #[.string nm, .bool hs, .int .u64 al, .int .u64 ti, .int .u32 ty, .bool hi_, .bool tr, .bool nu, .slice x1 y1 z1, .slice x2 y2 z2, .int .i64 vk, .int .u64 vn, .string vs, .slice x3 y3 z3, .slice x4 y4 z4] 36)
      obtain ⟨c0, c1, c2, c3, c4, c5, c6, c7, c8, c9, c10, c11, c12, c13, c14⟩ := At15.all hc15
      replace cP1 := Lib.hid cP1
      replace hO := Lib.hid hO
      replace h0 := Lib.hid h0
      have cP2 := Lib.hid (cP1.out _ hOm)
      obtain ⟨⟨r0, r1, r2, r3, r4, r5, r6, r7, r8, r9, r10, r11, r12, r13, r14⟩, f0, f1, f2, f3, f4, f5, f6, f7, f8, f9, f10, f11, f12, f13, f14⟩ := hb0.out _ (hOm.alloc (.cells #[.string nm, .bool hs, .int .u64 al, .int .u64 ti, .int .u32 ty, .bool hi_, .bool tr, .bool nu, .slice x1 y1 z1, .slice x2 y2 z2, .int .i64 vk, .int .u64 vn, .string vs, .slice x3 y3 z3, .slice x4 y4 z4] 36))
      have hOf := hOm.alloc (.cells #[.string nm, .bool hs, .int .u64 al, .int .u64 ti, .int .u32 ty, .bool hi_, .bool tr, .bool nu, .slice x1 y1 z1, .slice x2 y2 z2, .int .i64 vk, .int .u64 vn, .string vs, .slice x3 y3 z3, .slice x4 y4 z4] 36)
      replace hOm := Lib.hid hOm
      replace hOf := Lib.hid hOf
      clear cP1 hc15 hx hwf
      cases hq : (nm.toList == key.toList)
      · rw [hq] at cP2 hn
        replace hnext := Lib.hid (hnext hn)
        clear hn hsm hq
        go_wp2_with (go_at_call 105; (with_reducible refine cP2.out.mono ?_); rintro e w2 ⟨rfl, rfl⟩)
        go_roundg (M.length - (k + 1))
        case measure => omega
        case rel => exact ⟨k + 1, by omega, rfl, by simp, hOf.out, hnext.out⟩
      · rw [hq] at cP2 hn
        replace hsm := Lib.hid (hsm hn)
        clear hn hnext hq
        go_wp2_with (go_at_call 105; (with_reducible refine cP2.out.mono ?_); rintro e w2 ⟨rfl, rfl⟩)
        unfold FirstPost
        rw [hsm.out]
        exact bodyPost_ret (v := .tuple #[.agg #[.string nm, .bool hs, .int .u64 al, .int .u64 ti, .int .u32 ty, .bool hi_, .bool tr, .bool nu, .slice x1 y1 z1, .slice x2 y2 z2, .int .i64 vk, .int .u64 vn, .string vs, .slice x3 y3 z3, .slice x4 y4 z4], .bool true]) (by simp [results, Tryz.results104, go_sem, r0, r1, r2, r3, r4, r5, r6, r7, r8, r9, r10, r11, r12, r13, r14]) rfl ⟨rfl, own15 (hw0.out.trans hOf.out) (.inr (Nat.le_refl _))⟩
    · have k1 : ¬ (k : Int) < M.length := by omega
      have hsm := metFind_none (M := M) (nm := key) (fun j m hj hm => h0 j m (by omega) hm)
      obtain ⟨⟨r0, r1, r2, r3, r4, r5, r6, r7, r8, r9, r10, r11, r12, r13, r14⟩, f0, f1, f2, f3, f4, f5, f6, f7, f8, f9, f10, f11, f12, f13, f14⟩ := hb0.out _ (hO.alloc (.cells #[.string ⟨#[]⟩, .bool false, .int .u64 0, .int .u64 0, .int .u32 0, .bool false, .bool false, .bool false, .slice none 0 0, .slice none 0 0, .int .i64 0, .int .u64 0, .string ⟨#[]⟩, .slice none 0 0, .slice none 0 0] 36))
      have hOf := Lib.hid (hO.alloc (.cells #[.string ⟨#[]⟩, .bool false, .int .u64 0, .int .u64 0, .int .u32 0, .bool false, .bool false, .bool false, .slice none 0 0, .slice none 0 0, .int .i64 0, .int .u64 0, .string ⟨#[]⟩, .slice none 0 0, .slice none 0 0] 36))
      replace hO := Lib.hid hO
      replace h0 := Lib.hid h0
      replace hsm := Lib.hid hsm
      go_wp2_with fail
      unfold FirstPost
      rw [hsm.out]
      exact bodyPost_ret (v := .tuple #[.agg #[.string ⟨#[]⟩, .bool false, .int .u64 0, .int .u64 0, .int .u32 0, .bool false, .bool false, .bool false, .slice none 0 0, .slice none 0 0, .int .i64 0, .int .u64 0, .string ⟨#[]⟩, .slice none 0 0, .slice none 0 0], .bool false]) (by simp [results, Tryz.results104, go_sem, r0, r1, r2, r3, r4, r5, r6, r7, r8, r9, r10, r11, r12, r13, r14]) rfl ⟨rfl, own15 (hw0.out.trans hOf.out) (.inr (Nat.le_refl _))⟩

end Go.Proofs.YtjfmbjgniajagaaGreatDoor
