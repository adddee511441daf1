/- EdgeRefused: what is refused, or ignored, changes nothing but that the node is pending, if it was refused. -/
import Derived.Test.YtjfmbjgniajagaaGreatDoorEdgeOwn
import Derived.Test.YtjfmbjgniajagaaGreatDoorEdgeZero
import Derived.Deep.LoopGhost
import Derived.Deep.RegionHeld3
set_option linter.unusedSimpArgs false
set_option linter.unusedVariables false
namespace Go.Proofs.YtjfmbjgniajagaaGreatDoor
open Go.RowKit

theorem view_pend {w0 wr : World} {n : Nat} {g nm : ByteArray} {s : EN} (pv : Bool) (h : EI w0 wr n g nm { s with pending := pv }) : Calls Tryz.prog 12 #[.pointer (some ⟨n, 0, none⟩)] wr fun e w' => ∃ a cap va vc V, e = .returned (.agg #[.string g, .string nm, .bool s.online, .int .i64 (bdV s), .int .i64 (nextV s), .bool pv, .slice a s.items.length cap, .slice va s.dev.length vc]) ∧
    ViewB wr.heap.size w' s.items s.dev a cap va vc V ∧ Own [] wr w' := h.viewB
theorem al_pend {w0 wr : World} {n : Nat} {g nm : ByteArray} {s : EN} (pv : Bool) (h : EI w0 wr n g nm { s with pending := pv }) : Calls Tryz.prog 15 #[.pointer (some ⟨n, 0, none⟩)] wr fun e w' => e = .returned (.int .i64 s.al.length) ∧ wr = w' := h.1.al
set_option maxRecDepth 100000 in
set_option maxHeartbeats 16000000 in
theorem edgeRefused_walk (a : Option Addr) (len cap : Nat) (ms : Nat → EAct) (y : EAct) (w : World) (hA : EActs w a len ms) (hy : PayAt w y.p) (hE : Errs w) :
    Calls Tryz.prog 4 #[.slice a len cap, .agg #[.int .i64 y.k, .string y.dev, .int .u64 y.p.t, .bool y.p.h, .int .u64 y.p.s, .string y.p.u, .string y.p.b, .slice y.p.a y.p.M.length y.p.c]] w fun e w' => e = .returned (.bool true) ∧ Below w.heap.size w w' := by
  have hlen : len ≤ 9223372036854775807 := by have := hA.1; unfold maxLen at this; omega
  have hAt := Lib.hid fun i (hi : i < len) => eacts_all hA hi
  have AW := Lib.hid (fun W => awake_any W)
  have SM := Lib.hid fun p W => small_any p W
  have hOB0 : Own [] w (w.alloc (.cells #[.int .i64 y.k, .string y.dev, .int .u64 y.p.t, .bool y.p.h, .int .u64 y.p.s, .string y.p.u, .string y.p.b, .slice y.p.a y.p.M.length y.p.c] 50)) := (Own.refl _ _).alloc _
  have hr0 := heap_alloc_new w (.cells #[.int .i64 y.k, .string y.dev, .int .u64 y.p.t, .bool y.p.h, .int .u64 y.p.s, .string y.p.u, .string y.p.b, .slice y.p.a y.p.M.length y.p.c] 50)
  obtain ⟨wB, hwB⟩ : ∃ wB, w.alloc (.cells #[.int .i64 y.k, .string y.dev, .int .u64 y.p.t, .bool y.p.h, .int .u64 y.p.s, .string y.p.u, .string y.p.b, .slice y.p.a y.p.M.length y.p.c] 50) = wB := ⟨_, rfl⟩
  rw [hwB] at hOB0 hr0
  have hBx := Lib.hid fun W (ho : Own [] wB W) => (blk8 (ho.heap hr0 (by simp))).1
  have hEB := hE.nil hOB0
  have TK := Lib.hid fun n wr s (x : EAct) (h : EI wB wr n ⟨#[103]⟩ ⟨#[110]⟩ s) (hP : PayAt wr x.p) => EI.take x.k x.dev x.p h hP hEB
  have TX := Lib.hid fun n wr s B C (h : EX wB wr n ⟨#[103]⟩ ⟨#[110]⟩ s B C) (hP : PayAt wr y.p) => EX.take y.k y.dev y.p h hP hEB
  have NW := Lib.hid (EI.new ⟨#[103]⟩ ⟨#[110]⟩ wB (by kernel_rfl) (by kernel_rfl))
  have hOB := Lib.hid hOB0
  replace hy := Lib.hid hy
  replace hwB := Lib.hid hwB
  clear hA hE hr0 hEB hOB0
  go_enter Tryz.func4, Tryz.ntmps4
  go_wp2_with (go_at_call 9; rw [hwB.out]; (with_reducible refine NW.out.mono ?_); rintro e w1 ⟨n, rfl, hN⟩; replace hN := Lib.hid hN)
  go_loopg [7] len (fun m sI wr => ∃ (i : Nat) (s : EN), i ≤ len ∧ m = len - i ∧ sI = .int .i64 i ∧ Aside (EI wB wr n ⟨#[103]⟩ ⟨#[110]⟩ s))
  case atStart => exact ⟨0, _, by omega, rfl, rfl, hN.out⟩
  case round =>
    obtain ⟨i, s, hi, rfl, rfl, hH⟩ := hrel
    by_cases hlt : i < len ∧ i < 30
    · obtain ⟨hlt, h40⟩ := hlt
      obtain ⟨b, o, rfl, hAl⟩ := hAt.out i hlt
      obtain ⟨hP, hca⟩ := hAl _ (hOB.out.trans hH.1.own)
      have cT := fun W (ho : Own [] wr W) => TK.out n W s (ms i) (hH.nil' ho) (hP.nil' ho)
      have hcW := Lib.hid fun W (ho : Own [] w W) => (hAl W ho).2
      have hOw := Lib.hid (hOB.out.trans hH.1.own)
      obtain ⟨c0, c1, c2, c3, c4, c5, c6, c7⟩ := hca
      clear hAl
      generalize ms i = x at *
      have cS := SM.out x.p
      by_cases hsm : x.p.M.length ≤ 40
      · have hd : decide (x.p.M.length ≤ 40) = true := by simpa using hsm
        rw [hd] at cS
        replace cS := Lib.hid fun W => cS W
        replace cT := Lib.hid cT
        replace hH := Lib.hid hH
        generalize eTake s x.k x.dev x.p = r at cT
        obtain ⟨r1, s'⟩ := r
        clear hP hsm
        go_wp2_with (go_at_call 14; (with_reducible refine (cS.out _).mono ?_); rintro e w2 ⟨rfl, hO2⟩; have hcW2 := hcW.out _ (hOw.out.trans hO2); obtain ⟨d0, d1, d2, d3, d4, d5, d6, d7⟩ := hcW2; have cT2 := Lib.hid (cT.out _ hO2.drew); replace hO2 := Lib.hid hO2)
        go_region_held3 (fun W => W.cell? ⟨b, o + i * 8, none⟩ = some (.int .i64 x.k) ∧ W.cell? ⟨b, o + i * 8 + 1, none⟩ = some (.string x.dev) ∧ W.cell? ⟨b, o + i * 8 + 2, none⟩ = some (.int .u64 x.p.t) ∧ W.cell? ⟨b, o + i * 8 + 3, none⟩ = some (.bool x.p.h) ∧ W.cell? ⟨b, o + i * 8 + 4, none⟩ = some (.int .u64 x.p.s) ∧ W.cell? ⟨b, o + i * 8 + 5, none⟩ = some (.string x.p.u) ∧ W.cell? ⟨b, o + i * 8 + 6, none⟩ = some (.string x.p.b) ∧ W.cell? ⟨b, o + i * 8 + 7, none⟩ = some (.slice x.p.a x.p.M.length x.p.c))
          (first | go_keep | exact kA)
          ((go_at_call 10; (with_reducible refine cT2.out.mono ?_); rintro e w3 ⟨rfl, hH3⟩; have kA := hcW.out _ (hOB.out.trans hH3.1.own); replace hH3 := Lib.hid hH3))
        all_goals
          clear kA c0 c1 c2 c3 c4 c5 c6 c7 d0 d1 d2 d3 d4 d5 d6 d7
          go_wp2_with fail
          go_roundg (len - (i + 1))
          case rel => exact ⟨i + 1, s', by omega, rfl, by go_num, hH3.out⟩
          case measure => omega
      · have hd : decide (x.p.M.length ≤ 40) = false := by simpa using hsm
        rw [hd] at cS
        replace cS := Lib.hid fun W => cS W
        replace hH := Lib.hid hH
        clear cT hP hsm
        go_wp2_with (go_at_call 14; (with_reducible refine (cS.out _).mono ?_); rintro e w2 ⟨rfl, hO2⟩; replace hO2 := Lib.hid (hH.out.nil' hO2))
        go_roundg (len - (i + 1))
        case rel => exact ⟨i + 1, s, by omega, rfl, by go_num, hO2.out⟩
        case measure => omega
    · have hex : (¬ i < len) ∨ (i < len ∧ ¬ ((i : Int) < 30)) := by
        by_cases h1 : i < len
        · exact .inr ⟨h1, fun h2 => hlt ⟨h1, by omega⟩⟩
        · exact .inl h1
      clear hlt
      have hVc := Lib.hid hH.viewB
      have cA := Lib.hid fun W (ho : Own [] wr W) => (hH.nil' ho).1.al
      have hfew := Lib.hid hH.1.few
      have hTk := Lib.hid fun W (ho : Own [] wr W) => TX.out n W s _ _ (hH.gap ho) (hy.out.nil' (hOB.out.trans (hH.1.own.trans ho)))
      have hbx := Lib.hid fun W (ho : Own [] wr W) => hBx.out W (hH.1.own.trans ho)
      have hno : (eTake s y.k y.dev y.p).1 ≠ 1 → (eTake s y.k y.dev y.p).2 = { s with pending := s.pending || decide (3 ≤ (eTake s y.k y.dev y.p).1) } := eTake_not
      generalize hr : eTake s y.k y.dev y.p = r at hTk hno
      obtain ⟨r1, s2⟩ := r
      simp only at hno
      replace hH := Lib.hid hH
      replace hr := Lib.hid hr
      by_cases hr1 : r1 = 1
      · subst hr1
        clear hno
        rcases hex with h2 | ⟨h2, h3⟩
        all_goals
          go_wp2_with (first
            | (go_at_call 12; (with_reducible refine hVc.out.mono ?_); rintro e w4 ⟨a4, cap4, va4, vc4, V4, rfl, hV4, hO4⟩; obtain ⟨u0, u1, u2, u3, u4, u5, u6, u7⟩ := hbx.out _ (hO4.alloc (.cells #[.string ⟨#[103]⟩, .string ⟨#[110]⟩, .bool s.online, .int .i64 (bdV s), .int .i64 (nextV s), .bool s.pending, .slice a4 s.items.length cap4, .slice va4 s.dev.length vc4] 45)); replace hV4 := Lib.hid hV4; replace hO4 := Lib.hid hO4)
            | (go_at_call 15; (with_reducible refine (cA.out _ (hO4.out.alloc _)).mono ?_); rintro e w5 ⟨rfl, rfl⟩)
            | (go_at_call 10; (with_reducible refine (hTk.out _ (hO4.out.alloc _)).mono ?_); rintro e w6 ⟨rfl, hX6, hG6⟩; replace hX6 := Lib.hid hX6; clear hG6)
            | (go_at_call 13; (with_reducible refine (AW.out _).mono ?_); rintro e w7 ⟨rfl, hO7⟩; replace hO7 := Lib.hid (hOB.out.trans (hX6.out.ei.1.own.trans hO7))))
          go_ret
          exact ⟨rfl, hO7.out.below (Nat.le_refl _) (by simp)⟩
      · have hs2 := hno hr1
        rw [hs2] at hTk
        clear hs2
        have hr1b : (r1 == 1) = false := by simpa using hr1
        clear hno hr1
        obtain ⟨pv, hpv⟩ : ∃ pv, (s.pending || decide (3 ≤ r1)) = pv := ⟨_, rfl⟩
        rw [hpv] at hTk
        have hpd : s.pending = true ∧ pv = true ∨ s.pending = false ∧ pv = decide (3 ≤ r1) := by
          rw [← hpv]
          cases s.pending
          · exact .inr ⟨rfl, by simp⟩
          · exact .inl ⟨rfl, by simp⟩
        clear hpv
        have hsm4 := fun (a4 va4 a8 va8 : Option Addr) (c1 vc1 c2 vc2 : Nat) (V1 V2 : List DV) W (h1 : VAt W s.items s.dev a4 va4 V1) (h2 : VAt W s.items s.dev a8 va8 V2) => esame_any ⟨#[103]⟩ ⟨#[110]⟩ s.online pv (bdV s) (nextV s) s.items s.dev _ _ rfl rfl a4 va4 a8 va8 c1 vc1 c2 vc2 V1 V2 W h1 h2
        replace hsm4 := Lib.hid hsm4
        have hVs := Lib.hid fun W (h : EI wB W n ⟨#[103]⟩ ⟨#[110]⟩ { s with pending := pv }) => view_pend pv h
        have hAs := Lib.hid fun W (h : EI wB W n ⟨#[103]⟩ ⟨#[110]⟩ { s with pending := pv }) => al_pend pv h
        have hal : (s.al.length : Int) = s.al.length := rfl
        rcases hpd with ⟨hp, rfl⟩ | ⟨hp, rfl⟩
        · rcases hex with h2 | ⟨h2, h3⟩
          all_goals
            go_wp2_with (first
              | (go_at_call 12; (with_reducible refine hVc.out.mono ?_); rintro e w4 ⟨a4, cap4, va4, vc4, V4, rfl, hV4, hO4⟩; rw [hp]; obtain ⟨u0, u1, u2, u3, u4, u5, u6, u7⟩ := hbx.out _ (hO4.alloc (.cells #[.string ⟨#[103]⟩, .string ⟨#[110]⟩, .bool s.online, .int .i64 (bdV s), .int .i64 (nextV s), .bool true, .slice a4 s.items.length cap4, .slice va4 s.dev.length vc4] 45)); have hrow4 := heap_alloc_new w4 (.cells #[.string ⟨#[103]⟩, .string ⟨#[110]⟩, .bool s.online, .int .i64 (bdV s), .int .i64 (nextV s), .bool true, .slice a4 s.items.length cap4, .slice va4 s.dev.length vc4] 45); replace hV4 := Lib.hid hV4; replace hO4 := Lib.hid hO4; replace hrow4 := Lib.hid hrow4)
              | (go_at_call 15; (with_reducible refine (cA.out _ (hO4.out.alloc _)).mono ?_); rintro e w5 ⟨rfl, rfl⟩)
              | (go_at_call 10; (with_reducible refine (hTk.out _ (hO4.out.alloc _)).mono ?_); rintro e w6 ⟨rfl, hX6, hG6⟩; have hr6 := hG6.heap hrow4.out hO4.out.size (by simp); obtain ⟨⟨x0, x1, x2, x3, x4, x5, x6, x7⟩, f0, f1, f2, f3, f4, f5, f6, f7⟩ := blk8 hr6; replace hX6 := Lib.hid hX6; replace hG6 := Lib.hid hG6; replace hr6 := Lib.hid hr6))
            have hX7 := Lib.hid ((hX6.out.set (b := w4.heap.size) hO4.out.size (by simp) 5 (.bool true)).nil' (Own.refl [] _).drew)
            have hr7 : ((w6.setCell ⟨w4.heap.size, 5, none⟩ (.bool true)).drew).heap[w4.heap.size]? = some (.cells #[.string ⟨#[103]⟩, .string ⟨#[110]⟩, .bool s.online, .int .i64 (bdV s), .int .i64 (nextV s), .bool true, .slice a4 s.items.length cap4, .slice va4 s.dev.length vc4] 45 (0, 0)) := heap_setCell_same _ _ _ _ _ _ hr6.out
            have hk7 := Lib.hid fun W (ho : Own [] ((w6.setCell ⟨w4.heap.size, 5, none⟩ (.bool true)).drew) W) => (blk8 (ho.heap hr7 (by simp))).1
            have hVo := Lib.hid ((hV4.out.gap ((((Gap.nil ((Own.refl [] w4).alloc _)).trans (hG6.out.mono' (by simp))).trans (Gap.set (Nat.le_refl _) 5 (.bool true))).trans (Gap.nil (Own.refl [] _).drew)) (Nat.le_refl _)).at_ hfew.out)
            have cV7 := Lib.hid (hVs.out _ hX7.out.ei)
            have kS := hk7.out _ (Own.refl _ _)
            clear hr7 u0 u1 u2 u3 u4 u5 u6 u7
            go_region_held3 (fun W => W.cell? ⟨w4.heap.size, 0, none⟩ = some (.string ⟨#[103]⟩) ∧ W.cell? ⟨w4.heap.size, 1, none⟩ = some (.string ⟨#[110]⟩) ∧ W.cell? ⟨w4.heap.size, 2, none⟩ = some (.bool s.online) ∧ W.cell? ⟨w4.heap.size, 3, none⟩ = some (.int .i64 (bdV s)) ∧ W.cell? ⟨w4.heap.size, 4, none⟩ = some (.int .i64 (nextV s)) ∧ W.cell? ⟨w4.heap.size, 5, none⟩ = some (.bool true) ∧ W.cell? ⟨w4.heap.size, 6, none⟩ = some (.slice a4 s.items.length cap4) ∧ W.cell? ⟨w4.heap.size, 7, none⟩ = some (.slice va4 s.dev.length vc4))
              (first | exact kS | go_keep | exact kA | exact kB | exact kC)
              ((first
                | (go_at_call 12; (with_reducible refine cV7.out.mono ?_); rintro e w8 ⟨a8, cap8, va8, vc8, V8, rfl, hV8, hO8⟩; have kA := hk7.out _ hO8; have cS8 := Lib.hid (hsm4.out a8 va8 a4 va4 cap8 vc8 cap4 vc4 V8 V4 _ (hV8.at_ hfew.out) (hVo.out.nil' hO8)); replace hO8 := Lib.hid hO8; clear hV8)
                | (go_at_call 16; (with_reducible refine cS8.out.mono ?_); rintro e w9 ⟨rfl, hO9⟩; have hO89 := hO8.out.trans hO9; have kB := hk7.out _ hO89; have cA9 := Lib.hid (hAs.out _ (hX7.out.nil' hO89).ei); replace hO89 := Lib.hid hO89; clear hO9)
                | (go_at_call 15; (with_reducible refine cA9.out.mono ?_); rintro e w10 ⟨rfl, rfl⟩)
                | (go_at_call 13; (with_reducible refine (AW.out _).mono ?_); rintro e w11 ⟨rfl, hO11⟩; have kC := hk7.out _ (hO89.out.trans hO11); replace hO11 := Lib.hid (hO89.out.trans hO11))))
            all_goals
              go_wp2_with fail
              go_ret
              exact ⟨rfl, (hOB.out.trans (hX7.out.ei.1.own.trans hO11.out)).below (Nat.le_refl _) (by simp)⟩
        · rcases hex with h2 | ⟨h2, h3⟩
          all_goals
            go_wp2_with (first
              | (go_at_call 12; (with_reducible refine hVc.out.mono ?_); rintro e w4 ⟨a4, cap4, va4, vc4, V4, rfl, hV4, hO4⟩; rw [hp]; obtain ⟨u0, u1, u2, u3, u4, u5, u6, u7⟩ := hbx.out _ (hO4.alloc (.cells #[.string ⟨#[103]⟩, .string ⟨#[110]⟩, .bool s.online, .int .i64 (bdV s), .int .i64 (nextV s), .bool false, .slice a4 s.items.length cap4, .slice va4 s.dev.length vc4] 45)); have hrow4 := heap_alloc_new w4 (.cells #[.string ⟨#[103]⟩, .string ⟨#[110]⟩, .bool s.online, .int .i64 (bdV s), .int .i64 (nextV s), .bool false, .slice a4 s.items.length cap4, .slice va4 s.dev.length vc4] 45); replace hV4 := Lib.hid hV4; replace hO4 := Lib.hid hO4; replace hrow4 := Lib.hid hrow4)
              | (go_at_call 15; (with_reducible refine (cA.out _ (hO4.out.alloc _)).mono ?_); rintro e w5 ⟨rfl, rfl⟩)
              | (go_at_call 10; (with_reducible refine (hTk.out _ (hO4.out.alloc _)).mono ?_); rintro e w6 ⟨rfl, hX6, hG6⟩; have hr6 := hG6.heap hrow4.out hO4.out.size (by simp); obtain ⟨⟨x0, x1, x2, x3, x4, x5, x6, x7⟩, f0, f1, f2, f3, f4, f5, f6, f7⟩ := blk8 hr6; replace hX6 := Lib.hid hX6; replace hG6 := Lib.hid hG6; replace hr6 := Lib.hid hr6))
            have hX7 := Lib.hid ((hX6.out.set (b := w4.heap.size) hO4.out.size (by simp) 5 (.bool (decide (3 ≤ r1)))).nil' (Own.refl [] _).drew)
            have hr7 : ((w6.setCell ⟨w4.heap.size, 5, none⟩ (.bool (decide (3 ≤ r1)))).drew).heap[w4.heap.size]? = some (.cells #[.string ⟨#[103]⟩, .string ⟨#[110]⟩, .bool s.online, .int .i64 (bdV s), .int .i64 (nextV s), .bool (decide (3 ≤ r1)), .slice a4 s.items.length cap4, .slice va4 s.dev.length vc4] 45 (0, 0)) := heap_setCell_same _ _ _ _ _ _ hr6.out
            have hk7 := Lib.hid fun W (ho : Own [] ((w6.setCell ⟨w4.heap.size, 5, none⟩ (.bool (decide (3 ≤ r1)))).drew) W) => (blk8 (ho.heap hr7 (by simp))).1
            have hVo := Lib.hid ((hV4.out.gap ((((Gap.nil ((Own.refl [] w4).alloc _)).trans (hG6.out.mono' (by simp))).trans (Gap.set (Nat.le_refl _) 5 (.bool (decide (3 ≤ r1))))).trans (Gap.nil (Own.refl [] _).drew)) (Nat.le_refl _)).at_ hfew.out)
            have cV7 := Lib.hid (hVs.out _ hX7.out.ei)
            have kS := hk7.out _ (Own.refl _ _)
            clear hr7 u0 u1 u2 u3 u4 u5 u6 u7
            go_region_held3 (fun W => W.cell? ⟨w4.heap.size, 0, none⟩ = some (.string ⟨#[103]⟩) ∧ W.cell? ⟨w4.heap.size, 1, none⟩ = some (.string ⟨#[110]⟩) ∧ W.cell? ⟨w4.heap.size, 2, none⟩ = some (.bool s.online) ∧ W.cell? ⟨w4.heap.size, 3, none⟩ = some (.int .i64 (bdV s)) ∧ W.cell? ⟨w4.heap.size, 4, none⟩ = some (.int .i64 (nextV s)) ∧ W.cell? ⟨w4.heap.size, 5, none⟩ = some (.bool (decide (3 ≤ r1))) ∧ W.cell? ⟨w4.heap.size, 6, none⟩ = some (.slice a4 s.items.length cap4) ∧ W.cell? ⟨w4.heap.size, 7, none⟩ = some (.slice va4 s.dev.length vc4))
              (first | exact kS | go_keep | exact kA | exact kB | exact kC)
              ((first
                | (go_at_call 12; (with_reducible refine cV7.out.mono ?_); rintro e w8 ⟨a8, cap8, va8, vc8, V8, rfl, hV8, hO8⟩; have kA := hk7.out _ hO8; have cS8 := Lib.hid (hsm4.out a8 va8 a4 va4 cap8 vc8 cap4 vc4 V8 V4 _ (hV8.at_ hfew.out) (hVo.out.nil' hO8)); replace hO8 := Lib.hid hO8; clear hV8)
                | (go_at_call 16; (with_reducible refine cS8.out.mono ?_); rintro e w9 ⟨rfl, hO9⟩; have hO89 := hO8.out.trans hO9; have kB := hk7.out _ hO89; have cA9 := Lib.hid (hAs.out _ (hX7.out.nil' hO89).ei); replace hO89 := Lib.hid hO89; clear hO9)
                | (go_at_call 15; (with_reducible refine cA9.out.mono ?_); rintro e w10 ⟨rfl, rfl⟩)
                | (go_at_call 13; (with_reducible refine (AW.out _).mono ?_); rintro e w11 ⟨rfl, hO11⟩; have kC := hk7.out _ (hO89.out.trans hO11); replace hO11 := Lib.hid (hO89.out.trans hO11))))
            all_goals
              go_wp2_with fail
              go_ret
              exact ⟨rfl, (hOB.out.trans (hX7.out.ei.1.own.trans hO11.out)).below (Nat.le_refl _) (by simp)⟩
end Go.Proofs.YtjfmbjgniajagaaGreatDoor
