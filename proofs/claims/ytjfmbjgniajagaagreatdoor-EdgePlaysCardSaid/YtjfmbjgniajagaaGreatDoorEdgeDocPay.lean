/- The document's payload (chapter 10): Seq, Find, Bd. -/
import Derived.Test.YtjfmbjgniajagaaGreatDoorPayBd
set_option linter.unusedSimpArgs false
set_option linter.unusedVariables false
namespace Go.Proofs.YtjfmbjgniajagaaGreatDoor
open Go.RowKit

set_option maxRecDepth 100000 in
set_option maxHeartbeats 2000000 in
theorem rpseq_any (p : Pay) (w : World) (h0 : 0 ≤ p.s) : Calls Tryz.prog 67 #[p.val] w fun e w' => e = .returned (.tuple #[.int .i64 p.seq.1, .bool p.seq.2]) ∧ Own [] w w' := by
  obtain ⟨t, h, s, u, b, a, M, c⟩ := p
  unfold Pay.seq smallN Pay.val
  simp only at h0 ⊢
  have hO : Own [] w (w.alloc (.cells #[.int .u64 t, .bool h, .int .u64 s, .string u, .string b, .slice a M.length c] 39)) := (Own.refl _ _).alloc _
  replace hO := Lib.hid hO
  cases h with
  | false =>
    simp only [Bool.false_eq_true, if_false]
    go_enter Tryz.func67, Tryz.ntmps67
    go_wp2_with fail
    go_ret2
    exact ⟨rfl, hO.out⟩
  | true =>
    simp only [if_true]
    by_cases hs : 256 ≤ s
    · rw [if_pos hs]
      have hd : decide (255 < s) = true := by simp; omega
      go_enter Tryz.func67, Tryz.ntmps67
      go_wp2_with fail
      go_ret2
      exact ⟨rfl, hO.out⟩
    · rw [if_neg hs]
      have hd : decide (255 < s) = false := by simp; omega
      have hw : IntKind.i64.wrap s = s := IntWalk.i64_in _ (by omega)
      go_enter Tryz.func67, Tryz.ntmps67
      go_wp2_with fail
      go_ret2
      exact ⟨rfl, hO.out⟩
set_option maxRecDepth 100000 in
set_option maxHeartbeats 8000000 in
theorem rpfind_any (q : Pay) (key : ByteArray) (w : World) (hM : MetsAt w q.a q.M) : Calls Tryz.prog 99 #[q.val, .string key] w (FirstPost q.M key w) := by
  obtain ⟨t, h, s, u, b, a, M, c⟩ := q
  unfold Pay.val
  simp only at hM ⊢
  have hl := hM.1
  have hw0 : Own [] w ((w.alloc (.cells #[.int .u64 t, .bool h, .int .u64 s, .string u, .string b, .slice a M.length c] 39)).alloc (.cells #[.string ⟨#[]⟩, .bool false, .int .u64 0, .int .u64 0, .int .u32 0, .bool false, .bool false, .bool false, .slice none 0 0, .slice none 0 0, .int .i64 0, .int .u64 0, .string ⟨#[]⟩, .slice none 0 0, .slice none 0 0] 36)) := ((Own.refl _ _).alloc _).alloc _
  have hrowP : ((w.alloc (.cells #[.int .u64 t, .bool h, .int .u64 s, .string u, .string b, .slice a M.length c] 39)).alloc (.cells #[.string ⟨#[]⟩, .bool false, .int .u64 0, .int .u64 0, .int .u32 0, .bool false, .bool false, .bool false, .slice none 0 0, .slice none 0 0, .int .i64 0, .int .u64 0, .string ⟨#[]⟩, .slice none 0 0, .slice none 0 0] 36)).heap[w.heap.size]? = some (.cells #[.int .u64 t, .bool h, .int .u64 s, .string u, .string b, .slice a M.length c] 39 (0, 0)) := ((Own.refl [] _).alloc _).heap (heap_alloc_new w _) (by simp)
  have hrow : ((w.alloc (.cells #[.int .u64 t, .bool h, .int .u64 s, .string u, .string b, .slice a M.length c] 39)).alloc (.cells #[.string ⟨#[]⟩, .bool false, .int .u64 0, .int .u64 0, .int .u32 0, .bool false, .bool false, .bool false, .slice none 0 0, .slice none 0 0, .int .i64 0, .int .u64 0, .string ⟨#[]⟩, .slice none 0 0, .slice none 0 0] 36)).heap[w.heap.size + 1]? = some (.cells #[.string ⟨#[]⟩, .bool false, .int .u64 0, .int .u64 0, .int .u32 0, .bool false, .bool false, .bool false, .slice none 0 0, .slice none 0 0, .int .i64 0, .int .u64 0, .string ⟨#[]⟩, .slice none 0 0, .slice none 0 0] 36 (0, 0)) := by
    have := heap_alloc_new (w.alloc (.cells #[.int .u64 t, .bool h, .int .u64 s, .string u, .string b, .slice a M.length c] 39)) (.cells #[.string ⟨#[]⟩, .bool false, .int .u64 0, .int .u64 0, .int .u32 0, .bool false, .bool false, .bool false, .slice none 0 0, .slice none 0 0, .int .i64 0, .int .u64 0, .string ⟨#[]⟩, .slice none 0 0, .slice none 0 0] 36)
    simpa using this
  have hM0 := hM.nil' hw0
  have hb0 := fun W (ho : Own [] ((w.alloc (.cells #[.int .u64 t, .bool h, .int .u64 s, .string u, .string b, .slice a M.length c] 39)).alloc (.cells #[.string ⟨#[]⟩, .bool false, .int .u64 0, .int .u64 0, .int .u32 0, .bool false, .bool false, .bool false, .slice none 0 0, .slice none 0 0, .int .i64 0, .int .u64 0, .string ⟨#[]⟩, .slice none 0 0, .slice none 0 0] 36)) W) => blk15 (ho.heap hrow (by simp))
  have hp0 := fun W (ho : Own [] ((w.alloc (.cells #[.int .u64 t, .bool h, .int .u64 s, .string u, .string b, .slice a M.length c] 39)).alloc (.cells #[.string ⟨#[]⟩, .bool false, .int .u64 0, .int .u64 0, .int .u32 0, .bool false, .bool false, .bool false, .slice none 0 0, .slice none 0 0, .int .i64 0, .int .u64 0, .string ⟨#[]⟩, .slice none 0 0, .slice none 0 0] 36)) W) => (cell_of_row W _ 5 _ _ _ (ho.heap hrowP (by simp)) : W.cell? ⟨w.heap.size, 5, none⟩ = some (.slice a M.length c))
  have hz : w.heap.size ≤ w.heap.size + 1 := by omega
  replace hM0 := Lib.hid hM0
  replace hw0 := Lib.hid hw0
  replace hb0 := Lib.hid hb0
  replace hp0 := Lib.hid hp0
  clear hrow hrowP hM
  go_enter Tryz.func99, Tryz.ntmps99
  go_wp2_with fail
  go_loopg [6] M.length (fun g s6 wr => ∃ (k : Nat), k ≤ M.length ∧ g = M.length - k ∧ s6 = .int .i64 k ∧ Aside (Own [] ((w.alloc (.cells #[.int .u64 t, .bool h, .int .u64 s, .string u, .string b, .slice a M.length c] 39)).alloc (.cells #[.string ⟨#[]⟩, .bool false, .int .u64 0, .int .u64 0, .int .u32 0, .bool false, .bool false, .bool false, .slice none 0 0, .slice none 0 0, .int .i64 0, .int .u64 0, .string ⟨#[]⟩, .slice none 0 0, .slice none 0 0] 36)) wr ∧ ∀ j m, j < k → M[j]? = some m → (m.name == key) = false))
  case atStart => exact ⟨0, by omega, by omega, rfl, Own.refl _ _, fun j m hj => by omega⟩
  case round =>
    obtain ⟨k, hk, rfl, rfl, hO, h0⟩ := hrel
    have k0 : (0 : Int) ≤ k := by omega
    have hp5 := hp0.out _ hO
    obtain ⟨⟨r0, r1, r2, r3, r4, r5, r6, r7, r8, r9, r10, r11, r12, r13, r14⟩, f0, f1, f2, f3, f4, f5, f6, f7, f8, f9, f10, f11, f12, f13, f14⟩ := hb0.out _ hO
    by_cases hlt : k < M.length
    · have k1 : (k : Int) < M.length := by omega
      have hwk : IntKind.i64.wrap ((k : Int) + 1) = (k : Int) + 1 := IntWalk.i64_in _ (by omega)
      obtain ⟨bb, o, rfl, hb, hwf, hc⟩ := (hM0.out.nil' hO).met hlt
      have hx := List.getElem?_eq_getElem hlt
      have hsm := metFind_some (nm := key) hlt h0
      generalize M[k] = x at hc hwf hx hsm
      have hn : (x.name == key) = (x.name.toList == key.toList) := peq_toList _ _
      have hc15 : At15 wr bb (o + k * 15) x := hc
      clear hc
      have hnext : (x.name == key) = false → ∀ j m, j < k + 1 → M[j]? = some m → (m.name == key) = false := fun h j m hj hm => by
        rcases Nat.lt_or_ge j k with h3 | h3
        · exact h0 j m h3 hm
        · obtain rfl : j = k := by omega
          rw [hx] at hm; cases hm; exact h
      obtain ⟨nm, hs, al, ti, ty, hi_, tr, nu, ⟨x1, y1, z1⟩, ⟨x2, y2, z2⟩, vk, vn, vs, ⟨x3, y3, z3⟩, ⟨x4, y4, z4⟩⟩ := x
      simp only [Met.val, Met.cells] at hn hsm hnext
      obtain ⟨c0, c1, c2, c3, c4, c5, c6, c7, c8, c9, c10, c11, c12, c13, c14⟩ := At15.all hc15
      replace hO := Lib.hid hO
      replace h0 := Lib.hid h0
      clear hc15 hx hwf
      cases hq : (nm.toList == key.toList)
      · rw [hq] at hn
        replace hnext := Lib.hid (hnext hn)
        clear hn hsm
        go_wp2_with fail
        go_roundg (M.length - (k + 1))
        case measure => omega
        case rel => exact ⟨k + 1, by omega, rfl, by simp, hO.out, hnext.out⟩
      · rw [hq] at hn
        replace hsm := Lib.hid (hsm hn)
        clear hn hnext
        go_wp2_with fail
        unfold FirstPost
        rw [hsm.out]
        exact bodyPost_ret (v := .tuple #[.agg #[.string nm, .bool hs, .int .u64 al, .int .u64 ti, .int .u32 ty, .bool hi_, .bool tr, .bool nu, .slice x1 y1 z1, .slice x2 y2 z2, .int .i64 vk, .int .u64 vn, .string vs, .slice x3 y3 z3, .slice x4 y4 z4], .bool true]) (by simp [results, Tryz.results99, go_sem, r0, r1, r2, r3, r4, r5, r6, r7, r8, r9, r10, r11, r12, r13, r14]) rfl ⟨rfl, own15 (hw0.out.trans hO.out) (.inr hz)⟩
    · have k1 : ¬ (k : Int) < M.length := by omega
      have hsm := metFind_none (M := M) (nm := key) (fun j m hj hm => h0 j m (by omega) hm)
      replace hO := Lib.hid hO
      replace h0 := Lib.hid h0
      replace hsm := Lib.hid hsm
      go_wp2_with fail
      unfold FirstPost
      rw [hsm.out]
      exact bodyPost_ret (v := .tuple #[.agg #[.string ⟨#[]⟩, .bool false, .int .u64 0, .int .u64 0, .int .u32 0, .bool false, .bool false, .bool false, .slice none 0 0, .slice none 0 0, .int .i64 0, .int .u64 0, .string ⟨#[]⟩, .slice none 0 0, .slice none 0 0], .bool false]) (by simp [results, Tryz.results99, go_sem, r0, r1, r2, r3, r4, r5, r6, r7, r8, r9, r10, r11, r12, r13, r14]) rfl ⟨rfl, own15 (hw0.out.trans hO.out) (.inr hz)⟩
set_option maxRecDepth 100000 in
set_option maxHeartbeats 8000000 in
theorem rpbd_any (q : Pay) (w : World) (hM : MetsAt w q.a q.M) : Calls Tryz.prog 66 #[q.val] w fun e w' => e = .returned (.tuple #[.int .i64 q.bd.1, .bool q.bd.2]) ∧ Own [] w w' := by
  have hO1 : Own [] w (w.alloc (.cells #[.int .u64 q.t, .bool q.h, .int .u64 q.s, .string q.u, .string q.b, .slice q.a q.M.length q.c] 39)) := (Own.refl _ _).alloc _
  have cF := rpfind_any q bdName _ (hM.nil' hO1)
  have hwf := fun m (h : metFind q.M bdName = some m) => hM.all_good m (metFind_mem h)
  unfold Pay.bd
  obtain ⟨t, h, s, u, b, a, M, c⟩ := q
  unfold Pay.val at cF ⊢
  simp only at hM cF hwf hO1 ⊢
  unfold FirstPost at cF
  unfold bdName at *
  replace hO1 := Lib.hid hO1
  clear hM
  cases hf : metFind M ⟨#[98, 100, 83, 101, 113]⟩ with
  | none =>
    simp only [hf] at cF
    unfold Met.val Met.cells Met.zero at cF
    replace cF := Lib.hid cF
    clear hf hwf
    go_enter Tryz.func66, Tryz.ntmps66
    go_wp2_with (go_at_call 99; refine cF.out.mono ?_; rintro e w2 ⟨rfl, hO2⟩; replace hO2 := Lib.hid (hO1.out.trans hO2))
    go_ret2
    exact ⟨rfl, hO2.out.alloc _⟩
  | some m =>
    have hm := hwf m hf
    simp only [hf] at cF
    obtain ⟨nm, hs, al, ti, ty, hi_, tr, nu, ⟨x1, y1, z1⟩, ⟨x2, y2, z2⟩, vk, vn, vs, ⟨x3, y3, z3⟩, ⟨x4, y4, z4⟩⟩ := m
    obtain ⟨_, _, _, _, _, _, hn0, hn1⟩ := hm
    simp only at hn0 hn1 ⊢
    unfold smallN
    unfold Met.val Met.cells at cF
    replace cF := Lib.hid cF
    clear hf hwf
    cases nu with
    | true =>
      simp only [if_true]
      go_enter Tryz.func66, Tryz.ntmps66
      go_wp2_with (go_at_call 99; refine cF.out.mono ?_; rintro e w2 ⟨rfl, hO2⟩; replace hO2 := Lib.hid (hO1.out.trans hO2))
      go_ret2
      exact ⟨rfl, hO2.out.alloc _⟩
    | false =>
      simp only [Bool.false_eq_true, if_false]
      have hcase : (vk = 1 ∨ vk = 2) ∨ ((vk != 1) = true ∧ (vk != 2) = true ∧ ¬ (vk = 1 ∨ vk = 2)) := by
        by_cases h1 : vk = 1 <;> by_cases h2 : vk = 2 <;> simp [h1, h2]
      rcases hcase with h12 | ⟨h1, h2, h3⟩
      · rw [if_pos h12]
        by_cases hv : 256 ≤ vn
        · rw [if_pos hv]
          have hd : decide (255 < vn) = true := by simp; omega
          rcases h12 with rfl | rfl
          all_goals
            go_enter Tryz.func66, Tryz.ntmps66
            go_wp2_with (go_at_call 99; refine cF.out.mono ?_; rintro e w2 ⟨rfl, hO2⟩; replace hO2 := Lib.hid (hO1.out.trans hO2))
            go_ret2
            exact ⟨rfl, hO2.out.alloc _⟩
        · rw [if_neg hv]
          have hd : decide (255 < vn) = false := by simp; omega
          have hw : IntKind.i64.wrap vn = vn := IntWalk.i64_in _ (by omega)
          rcases h12 with rfl | rfl
          all_goals
            go_enter Tryz.func66, Tryz.ntmps66
            go_wp2_with (go_at_call 99; refine cF.out.mono ?_; rintro e w2 ⟨rfl, hO2⟩; replace hO2 := Lib.hid (hO1.out.trans hO2))
            go_ret2
            exact ⟨rfl, hO2.out.alloc _⟩
      · rw [if_neg h3]
        clear h3
        go_enter Tryz.func66, Tryz.ntmps66
        go_wp2_with (go_at_call 99; refine cF.out.mono ?_; rintro e w2 ⟨rfl, hO2⟩; replace hO2 := Lib.hid (hO1.out.trans hO2))
        go_ret2
        exact ⟨rfl, hO2.out.alloc _⟩
end Go.Proofs.YtjfmbjgniajagaaGreatDoor
