/- Package payload: Find, Bd. -/
import Derived.Test.YtjfmbjgniajagaaGreatDoorPay
namespace Go.Proofs.YtjfmbjgniajagaaGreatDoor
open Go.RowKit

set_option maxRecDepth 100000 in
set_option maxHeartbeats 8000000 in
theorem pfind_any (q : Pay) (nm0 : ByteArray) (w : World) (hM : MetsAt w q.a q.M) : Calls Tryz.prog 79 #[q.val, .string nm0] w (FirstPost q.M nm0 w) := by
  obtain ⟨t, h, s, u, b, a, M, c⟩ := q
  unfold Pay.val
  simp only at hM ⊢
  have hO1 : Own [] w (((w.alloc (.cells #[.int .u64 t, .bool h, .int .u64 s, .string u, .string b, .slice a M.length c] 39)).alloc (.cells #[.string nm0] 9)).alloc (.cells #[.string ⟨#[]⟩, .bool false, .int .u64 0, .int .u64 0, .int .u32 0, .bool false, .bool false, .bool false, .slice none 0 0, .slice none 0 0, .int .i64 0, .int .u64 0, .string ⟨#[]⟩, .slice none 0 0, .slice none 0 0] 36)) := (((Own.refl _ _).alloc _).alloc _).alloc _
  have hk : (((w.alloc (.cells #[.int .u64 t, .bool h, .int .u64 s, .string u, .string b, .slice a M.length c] 39)).alloc (.cells #[.string nm0] 9)).alloc (.cells #[.string ⟨#[]⟩, .bool false, .int .u64 0, .int .u64 0, .int .u32 0, .bool false, .bool false, .bool false, .slice none 0 0, .slice none 0 0, .int .i64 0, .int .u64 0, .string ⟨#[]⟩, .slice none 0 0, .slice none 0 0] 36)).cell? ⟨w.heap.size + 1, 0, none⟩ = some (.string nm0) := by
    refine cell_of_row _ (w.heap.size + 1) 0 #[.string nm0] 9 (0, 0) ?_
    rw [Below.heap_alloc _ _ _ (by simp)]
    have := heap_alloc_new (w.alloc (.cells #[.int .u64 t, .bool h, .int .u64 s, .string u, .string b, .slice a M.length c] 39)) (.cells #[.string nm0] 9)
    simpa using this
  have hr : (((w.alloc (.cells #[.int .u64 t, .bool h, .int .u64 s, .string u, .string b, .slice a M.length c] 39)).alloc (.cells #[.string nm0] 9)).alloc (.cells #[.string ⟨#[]⟩, .bool false, .int .u64 0, .int .u64 0, .int .u32 0, .bool false, .bool false, .bool false, .slice none 0 0, .slice none 0 0, .int .i64 0, .int .u64 0, .string ⟨#[]⟩, .slice none 0 0, .slice none 0 0] 36)).heap[w.heap.size + 1 + 1]? = some (.cells #[.string ⟨#[]⟩, .bool false, .int .u64 0, .int .u64 0, .int .u32 0, .bool false, .bool false, .bool false, .slice none 0 0, .slice none 0 0, .int .i64 0, .int .u64 0, .string ⟨#[]⟩, .slice none 0 0, .slice none 0 0] 36 (0, 0)) := by
    have := heap_alloc_new ((w.alloc (.cells #[.int .u64 t, .bool h, .int .u64 s, .string u, .string b, .slice a M.length c] 39)).alloc (.cells #[.string nm0] 9)) (.cells #[.string ⟨#[]⟩, .bool false, .int .u64 0, .int .u64 0, .int .u32 0, .bool false, .bool false, .bool false, .slice none 0 0, .slice none 0 0, .int .i64 0, .int .u64 0, .string ⟨#[]⟩, .slice none 0 0, .slice none 0 0] 36)
    simpa using this
  have cF := pfirst_any a M c nm0 (w.heap.size + 1) _ (hM.nil' hO1) hk
  have hb := fun W (ho : Own [] (((w.alloc (.cells #[.int .u64 t, .bool h, .int .u64 s, .string u, .string b, .slice a M.length c] 39)).alloc (.cells #[.string nm0] 9)).alloc (.cells #[.string ⟨#[]⟩, .bool false, .int .u64 0, .int .u64 0, .int .u32 0, .bool false, .bool false, .bool false, .slice none 0 0, .slice none 0 0, .int .i64 0, .int .u64 0, .string ⟨#[]⟩, .slice none 0 0, .slice none 0 0] 36)) W) => blk15 (ho.heap hr (by simp))
  have hz : w.heap.size ≤ w.heap.size + 1 + 1 := by omega
  unfold FirstPost at cF ⊢
  replace hO1 := Lib.hid hO1
  replace hb := Lib.hid hb
  clear hk hr hM
  cases hf : metFind M nm0 with
  | none =>
    simp only [hf] at cF
    unfold Met.val Met.cells Met.zero at cF ⊢
    replace cF := Lib.hid cF
    clear hf
    go_enter Tryz.func79, Tryz.ntmps79
    go_wp2_with (go_at_call 104; refine cF.out.mono ?_; rintro e w2 ⟨rfl, hO2⟩; obtain ⟨⟨r0, r1, r2, r3, r4, r5, r6, r7, r8, r9, r10, r11, r12, r13, r14⟩, f0, f1, f2, f3, f4, f5, f6, f7, f8, f9, f10, f11, f12, f13, f14⟩ := hb.out _ hO2; replace hO2 := Lib.hid hO2)
    exact bodyPost_ret (v := .tuple #[.agg #[.string ByteArray.empty, .bool false, .int .u64 0, .int .u64 0, .int .u32 0, .bool false, .bool false, .bool false, .slice none 0 0, .slice none 0 0, .int .i64 0, .int .u64 0, .string ByteArray.empty, .slice none 0 0, .slice none 0 0], .bool false]) (by simp [results, Tryz.results79, go_sem, r0, r1, r2, r3, r4, r5, r6, r7, r8, r9, r10, r11, r12, r13, r14]) rfl ⟨rfl, own15 (hO1.out.trans hO2.out) (.inr hz)⟩
  | some m =>
    simp only [hf] at cF
    obtain ⟨nm, hs, al, ti, ty, hi_, tr, nu, ⟨x1, y1, z1⟩, ⟨x2, y2, z2⟩, vk, vn, vs, ⟨x3, y3, z3⟩, ⟨x4, y4, z4⟩⟩ := m
    unfold Met.val Met.cells at cF
    replace cF := Lib.hid cF
    clear hf
    go_enter Tryz.func79, Tryz.ntmps79
    go_wp2_with (go_at_call 104; refine cF.out.mono ?_; rintro e w2 ⟨rfl, hO2⟩; obtain ⟨⟨r0, r1, r2, r3, r4, r5, r6, r7, r8, r9, r10, r11, r12, r13, r14⟩, f0, f1, f2, f3, f4, f5, f6, f7, f8, f9, f10, f11, f12, f13, f14⟩ := hb.out _ hO2; replace hO2 := Lib.hid hO2)
    exact bodyPost_ret (v := .tuple #[.agg #[.string nm, .bool hs, .int .u64 al, .int .u64 ti, .int .u32 ty, .bool hi_, .bool tr, .bool nu, .slice x1 y1 z1, .slice x2 y2 z2, .int .i64 vk, .int .u64 vn, .string vs, .slice x3 y3 z3, .slice x4 y4 z4], .bool true]) (by simp [results, Tryz.results79, go_sem, r0, r1, r2, r3, r4, r5, r6, r7, r8, r9, r10, r11, r12, r13, r14]) rfl ⟨rfl, own15 (hO1.out.trans hO2.out) (.inr hz)⟩

theorem metFind_mem {M : List Met} {nm : ByteArray} {m : Met} (h : metFind M nm = some m) : m ∈ M := List.mem_of_find?_eq_some h
set_option maxRecDepth 100000 in
set_option maxHeartbeats 8000000 in
theorem pbd_any (q : Pay) (w : World) (hM : MetsAt w q.a q.M) : Calls Tryz.prog 48 #[q.val] w fun e w' => e = .returned (.tuple #[.int .i64 q.bd.1, .bool q.bd.2]) ∧ Own [] w w' := by
  have hO1 : Own [] w (w.alloc (.cells #[.int .u64 q.t, .bool q.h, .int .u64 q.s, .string q.u, .string q.b, .slice q.a q.M.length q.c] 39)) := (Own.refl _ _).alloc _
  have cF := pfind_any q bdName _ (hM.nil' hO1)
  have hwf := fun m (h : metFind q.M bdName = some m) => hM.all_good m (metFind_mem h)
  unfold Pay.bd
  obtain ⟨t, h, s, u, b, a, M, c⟩ := q
  unfold Pay.val at cF ⊢
  simp only at hM cF hwf hO1 ⊢
  unfold FirstPost at cF
  unfold bdName at *
  replace hO1 := Lib.hid hO1
  clear hM
  cases hf : metFind M ⟨#[98, 100, 83, 101, 113]⟩ with
  | none =>
    simp only [hf] at cF
    unfold Met.val Met.cells Met.zero at cF
    replace cF := Lib.hid cF
    clear hf hwf
    go_enter Tryz.func48, Tryz.ntmps48
    go_wp2_with (go_at_call 79; refine cF.out.mono ?_; rintro e w2 ⟨rfl, hO2⟩; replace hO2 := Lib.hid (hO1.out.trans hO2))
    go_ret2
    exact ⟨rfl, hO2.out.alloc _⟩
  | some m =>
    have hm := hwf m hf
    simp only [hf] at cF
    obtain ⟨nm, hs, al, ti, ty, hi_, tr, nu, ⟨x1, y1, z1⟩, ⟨x2, y2, z2⟩, vk, vn, vs, ⟨x3, y3, z3⟩, ⟨x4, y4, z4⟩⟩ := m
    obtain ⟨_, _, _, _, _, _, hn0, hn1⟩ := hm
    simp only at hn0 hn1 ⊢
    have cS := fun W => psmall_any vn W hn0
    generalize smallN vn = r at cS ⊢
    obtain ⟨r1, r2⟩ := r
    unfold Met.val Met.cells at cF
    replace cF := Lib.hid cF
    replace cS := Lib.hid cS
    clear hf hwf hn0 hn1
    cases nu with
    | true =>
      simp only [if_true]
      go_enter Tryz.func48, Tryz.ntmps48
      go_wp2_with (go_at_call 79; refine cF.out.mono ?_; rintro e w2 ⟨rfl, hO2⟩; replace hO2 := Lib.hid (hO1.out.trans hO2))
      go_ret2
      exact ⟨rfl, hO2.out.alloc _⟩
    | false =>
      simp only [Bool.false_eq_true, if_false]
      by_cases h1 : vk = 1
      · rw [if_pos (.inl h1)]
        subst h1
        go_enter Tryz.func48, Tryz.ntmps48
        go_wp2_with (first
          | (go_at_call 79; refine cF.out.mono ?_; rintro e w2 ⟨rfl, hO2⟩; replace hO2 := Lib.hid (hO1.out.trans hO2))
          | (go_at_call 80; refine (cS.out _).mono ?_; rintro e w3 ⟨rfl, rfl⟩))
        go_ret2
        exact ⟨rfl, hO2.out.alloc _⟩
      · have k1 : (vk == 1) = false := by simpa using h1
        by_cases h2 : vk = 2
        · rw [if_pos (.inr h2)]
          subst h2
          go_enter Tryz.func48, Tryz.ntmps48
          go_wp2_with (first
            | (go_at_call 79; refine cF.out.mono ?_; rintro e w2 ⟨rfl, hO2⟩; replace hO2 := Lib.hid (hO1.out.trans hO2))
            | (go_at_call 80; refine (cS.out _).mono ?_; rintro e w3 ⟨rfl, rfl⟩))
          go_ret2
          exact ⟨rfl, hO2.out.alloc _⟩
        · have k2 : (vk == 2) = false := by simpa using h2
          rw [if_neg (fun x => x.elim h1 h2)]
          go_enter Tryz.func48, Tryz.ntmps48
          go_wp2_with (go_at_call 79; refine cF.out.mono ?_; rintro e w2 ⟨rfl, hO2⟩; replace hO2 := Lib.hid (hO1.out.trans hO2))
          go_ret2
          exact ⟨rfl, hO2.out.alloc _⟩
end Go.Proofs.YtjfmbjgniajagaaGreatDoor
