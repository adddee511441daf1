/- EdgeDevices: what holds of a node's view behind each act. -/
import Derived.Test.YtjfmbjgniajagaaGreatDoorEdgeOwn
import Derived.Test.YtjfmbjgniajagaaGreatDoorEdgeZero
import Derived.Deep.LoopGhost
import Derived.Deep.RegionHeld3
set_option linter.unusedSimpArgs false
set_option linter.unusedVariables false
namespace Go.Proofs.YtjfmbjgniajagaaGreatDoor
open Go.RowKit

theorem vdev_le {its : List Itm} {dev : List Dev} {a va : Option Addr} {V : List DV} {w : World} (h : VAt w its dev a va V) (hr : Rises Dev.name dev) {k : Nat} (hk : k < dev.length) (h0 : 0 < k) :
    ∃ b o x y, va = some ⟨b, o, none⟩ ∧ dev[k]? = some x ∧ dev[k - 1]? = some y ∧ w.cell? ⟨b, o + k * 3, none⟩ = some (.string x.name) ∧ w.cell? ⟨b, o + (k - 1) * 3, none⟩ = some (.string y.name) ∧ sless y.name x.name = true := by
  have hk1 : k - 1 < dev.length := by omega
  obtain ⟨b, o, a1, c1, rfl, h1, _⟩ := dv_at h hk (List.getElem?_eq_getElem hk)
  obtain ⟨b2, o2, a2, c2, e, h2, _⟩ := dv_at h hk1 (List.getElem?_eq_getElem hk1)
  cases e
  exact ⟨b, o, _, _, rfl, List.getElem?_eq_getElem hk, List.getElem?_eq_getElem hk1, h1, h2, List.pairwise_iff_getElem.1 hr _ _ hk1 hk (by omega)⟩
set_option maxRecDepth 100000 in
set_option maxHeartbeats 16000000 in
theorem edgeDevices_walk (a : Option Addr) (len cap : Nat) (ms : Nat → EAct) (w : World) (hA : EActs w a len ms) (hE : Errs w) :
    Calls Tryz.prog 5 #[.slice a len cap] w fun e w' => e = .returned (.bool true) ∧ Below w.heap.size w w' := by
  have AW := Lib.hid (fun W => awake_any W)
  have NW := Lib.hid (EI.new ⟨#[103]⟩ ⟨#[110]⟩ w (by kernel_rfl) (by kernel_rfl))
  have hlen : len ≤ 9223372036854775807 := by have := hA.1; unfold maxLen at this; omega
  have hAt := Lib.hid fun i (hi : i < len) => eacts_all hA hi
  have SM := Lib.hid fun p W => small_any p W
  have TK := Lib.hid fun n wr s (x : EAct) (h : EI w wr n ⟨#[103]⟩ ⟨#[110]⟩ s) (hP : PayAt wr x.p) => EI.take x.k x.dev x.p h hP hE
  clear hA hE
  go_enter Tryz.func5, Tryz.ntmps5
  go_wp2_with (go_at_call 9; (with_reducible refine NW.out.mono ?_); rintro e w1 ⟨n, rfl, hN⟩; replace hN := Lib.hid hN)
  go_loopg [5] len (fun m s5 wr => ∃ (i : Nat) (s : EN), i ≤ len ∧ m = len - i ∧ s5 = .int .i64 i ∧ Aside (EI w wr n ⟨#[103]⟩ ⟨#[110]⟩ s))
  case atStart => exact ⟨0, _, by omega, rfl, rfl, hN.out⟩
  case round =>
    obtain ⟨i, s, hi, rfl, rfl, hH⟩ := hrel
    by_cases hlt : i < len
    · by_cases h40 : i < 40
      · obtain ⟨b, o, rfl, hAl⟩ := hAt.out i hlt
        obtain ⟨hP, hca⟩ := hAl _ hH.1.own
        have cT := fun W (ho : Own [] wr W) => TK.out n W s (ms i) (hH.nil' ho) (hP.nil' ho)
        have hcW := Lib.hid fun W (ho : Own [] w W) => (hAl W ho).2
        have hOw := Lib.hid hH.1.own
        obtain ⟨c0, c1, c2, c3, c4, c5, c6, c7⟩ := hca
        clear hAl
        generalize ms i = x at *
        have cS := SM.out x.p
        by_cases hsm : x.p.M.length ≤ 40
        · have hd : decide (x.p.M.length ≤ 40) = true := by simpa using hsm
          rw [hd] at cS
          replace cS := Lib.hid fun W => cS W
          replace cT := Lib.hid cT
          replace hH := Lib.hid hH
          generalize eTake s x.k x.dev x.p = r at cT
          obtain ⟨r1, s'⟩ := r
          clear hP hsm
          go_wp2_with (go_at_call 14; (with_reducible refine (cS.out _).mono ?_); rintro e w2 ⟨rfl, hO2⟩; have hcW2 := hcW.out _ (hOw.out.trans hO2); obtain ⟨d0, d1, d2, d3, d4, d5, d6, d7⟩ := hcW2; have cT2 := Lib.hid (cT.out _ hO2.drew); replace hO2 := Lib.hid hO2)
          go_region_held3 (fun W => W.cell? ⟨b, o + i * 8, none⟩ = some (.int .i64 x.k) ∧ W.cell? ⟨b, o + i * 8 + 1, none⟩ = some (.string x.dev) ∧ W.cell? ⟨b, o + i * 8 + 2, none⟩ = some (.int .u64 x.p.t) ∧ W.cell? ⟨b, o + i * 8 + 3, none⟩ = some (.bool x.p.h) ∧ W.cell? ⟨b, o + i * 8 + 4, none⟩ = some (.int .u64 x.p.s) ∧ W.cell? ⟨b, o + i * 8 + 5, none⟩ = some (.string x.p.u) ∧ W.cell? ⟨b, o + i * 8 + 6, none⟩ = some (.string x.p.b) ∧ W.cell? ⟨b, o + i * 8 + 7, none⟩ = some (.slice x.p.a x.p.M.length x.p.c))
            (first | go_keep | exact kA)
            ((go_at_call 10; (with_reducible refine cT2.out.mono ?_); rintro e w3 ⟨rfl, hH3⟩; have kA := hcW.out _ hH3.1.own; have cV3 := Lib.hid hH3.1.viewAt; replace hH3 := Lib.hid hH3))
          all_goals
            clear kA c0 c1 c2 c3 c4 c5 c6 c7 d0 d1 d2 d3 d4 d5 d6 d7
            have hf := hH3.out.1.few
            have hiv := hH3.out.2
            have hdl : decide ((4 : Int) < (s'.dev.length : Int)) = false := by have := hf.1.2.2; simp; omega
            have hil : decide ((32 : Int) < (s'.items.length : Int)) = false := by have := hf.1.1; simp; omega
            have hal : decide ((64 : Int) < (s'.al.length : Int)) = false := by have := hf.1.2.1; simp; omega
            have cA3 := Lib.hid fun W (ho : Own [] w3 W) => (hH3.out.nil' ho).1.al
            have hdN := hf.1.2.2
            replace hf := Lib.hid hf.2
            have hcase : s'.online = true ∨ (s'.online = false ∧ bdV s' = 0 ∧ nextV s' = 0 ∧ s'.al.length = 0) := by
              rcases Bool.eq_false_or_eq_true s'.online with hon | hon
              · exact .inl hon
              · obtain ⟨q1, q2, q3⟩ := hiv.2 hon
                exact .inr ⟨hon, by unfold bdV; simp [hon], by unfold nextV; simp [q1], by rw [q2]; rfl⟩
            have hoff : s'.online = true ∨ ∀ x ∈ s'.dev, x.on = false := by
              rcases Bool.eq_false_or_eq_true s'.online with hon | hon
              · exact .inl hon
              · exact .inr (hiv.2 hon).2.2
            have hris := Lib.hid hiv.1
            have hivs := Lib.hid hiv
            clear hiv
            generalize hbd : bdV s' = bv at *
            generalize hnx : nextV s' = nx at *
            replace hbd := Lib.hid hbd
            replace hnx := Lib.hid hnx
            generalize s'.al.length = an at *
            replace hoff := Lib.hid hoff
            rcases hcase with hon | ⟨hon, rfl, rfl, rfl⟩
            · rw [hon] at cV3
              replace hon := Lib.hid hon
              go_wp2_with (first
                | (go_at_call 12; (with_reducible refine cV3.out.mono ?_); rintro e w4 ⟨a4, cap4, va4, vc4, V4, rfl, hV4, hO4, hH4⟩; replace hV4 := Lib.hid hV4; replace hO4 := Lib.hid hO4; replace hH4 := Lib.hid hH4)
                | (go_at_call 15; (with_reducible refine (cA3.out _ (hO4.out.alloc _)).mono ?_); rintro e w5 ⟨rfl, rfl⟩))
              have hfz := Lib.hid (fun (w6 : World) (ho : Own [] w4 w6) => (And.intro (hH4.out.nil' ho) hivs.out : EI w w6 n ⟨#[103]⟩ ⟨#[110]⟩ s'))
              clear hcW hO2 hH cT cS hd hH3 cT2
              go_loopg [7] s'.dev.length (fun m s7 w6 => ∃ k : Nat, k ≤ s'.dev.length ∧ m = s'.dev.length - k ∧ s7 = .int .i64 k ∧ Aside (Own [] w4 w6 ∧ w6.heap[w4.heap.size]? = some (.cells #[.string ⟨#[103]⟩, .string ⟨#[110]⟩, .bool true, .int .i64 bv, .int .i64 nx, .bool s'.pending, .slice a4 s'.items.length cap4, .slice va4 s'.dev.length vc4] 45 (0, 0))))
              case atStart => exact ⟨0, Nat.zero_le _, rfl, rfl, (Own.refl _ _).alloc _, heap_alloc_new _ _⟩
              case round =>
                obtain ⟨k, hk, rfl, rfl, hO6, hr6⟩ := hrel
                obtain ⟨⟨x0, x1, x2, x3, x4, x5, x6, x7⟩, _⟩ := blk8 hr6
                have hO6s := Lib.hid hO6
                have hr6d := Lib.hid (fun m => (show (World.drewN _ m).heap[w4.heap.size]? = _ from hr6))
                by_cases hkl : k < s'.dev.length
                · obtain ⟨b1, o1, a1, c1, rfl, f0, f1, f2, hl1, _⟩ := dv_at (hV4.out.nil' hO6) hkl (List.getElem?_eq_getElem hkl)
                  have hyl : decide ((32 : Int) < ((s'.dev[k]).items.length : Int)) = false := by simp; omega
                  have hq1 : (k : Int) < (s'.dev.length : Int) := by omega
                  have hq0 : (0 : Int) ≤ k := by omega
                  have hk4 : k ≤ 4 := by omega
                  have hyo : true = true ∨ (s'.dev[k]).on = false := by
                    rcases hoff.out with h1 | h1
                    · exact .inl (by rw [← h1, hon.out])
                    · exact .inr (h1 _ (List.getElem_mem hkl))
                  rcases Nat.eq_zero_or_pos k with hk0 | hk0
                  · subst hk0
                    clear hr6 hO6
                    simp only [Nat.zero_mul, Nat.add_zero] at f0 f1 f2
                    generalize s'.dev[0] = y at *
                    rcases Bool.eq_false_or_eq_true y.on with hy | hy
                    · rw [hy] at f1
                      go_wp2_with fail
                      go_quiet (fail)
                      go_wp2_with fail
                      go_roundg (s'.dev.length - (0 + 1))
                      case rel => exact ⟨0 + 1, by omega, rfl, by go_num, hO6s.out.drewN _, hr6d.out _⟩
                      case measure => omega
                    · rw [hy] at f1
                      go_wp2_with fail
                      go_quiet (fail)
                      go_wp2_with fail
                      go_roundg (s'.dev.length - (0 + 1))
                      case rel => exact ⟨0 + 1, by omega, rfl, by go_num, hO6s.out.drewN _, hr6d.out _⟩
                      case measure => omega
                  · obtain ⟨b2, o2, a2, c2, e2, g0, _⟩ := dv_at (k := k - 1) (hV4.out.nil' hO6) (by omega) (List.getElem?_eq_getElem (by omega))
                    cases e2
                    have hless := List.pairwise_iff_getElem.1 hris.out (k - 1) k (by omega) hkl (by omega)
                    have hl2 := sless_asymm hless
                    have hl3 : ((s'.dev[k]).name.toList == (s'.dev[k - 1]).name.toList) = false := by
                      cases hq : ((s'.dev[k]).name.toList == (s'.dev[k - 1]).name.toList) with
                      | false => rfl
                      | true =>
                        have := toList_inj (by simpa using hq : (s'.dev[k]).name.toList = (s'.dev[k - 1]).name.toList)
                        rw [this, sless_irrefl] at hless; cases hless
                    unfold sless at hl2
                    have hp1 : IntKind.i64.wrap ((k : Int) - 1) = ((k - 1 : Nat) : Int) := by rw [IntKind.wrap_i64]; omega
                    have hp2 : ((k - 1 : Nat) : Int) < (s'.dev.length : Int) := by omega
                    have hk1 : decide ((0 : Int) < (k : Int)) = true := by simp; omega
                    have hk2 : decide (0 < k) = true := by simp; omega
                    have hp0 : (0 : Int) ≤ ((k - 1 : Nat) : Int) := by omega
                    generalize (s'.dev[k - 1]) = z at *
                    generalize (s'.dev[k]) = y at *
                    generalize k - 1 = kp at *
                    clear hr6 hO6 hless hk0
                    rcases Bool.eq_false_or_eq_true y.on with hy | hy
                    · rw [hy] at f1
                      go_wp2_with fail
                      go_quiet (fail)
                      go_wp2_with fail
                      go_roundg (s'.dev.length - (k + 1))
                      case rel => exact ⟨k + 1, by omega, rfl, by go_num, hO6s.out.drewN _, hr6d.out _⟩
                      case measure => omega
                    · rw [hy] at f1
                      go_wp2_with fail
                      go_quiet (fail)
                      go_wp2_with fail
                      go_roundg (s'.dev.length - (k + 1))
                      case rel => exact ⟨k + 1, by omega, rfl, by go_num, hO6s.out.drewN _, hr6d.out _⟩
                      case measure => omega
                · clear hr6
                  replace hO6 := Lib.hid hO6
                  go_wp2_with fail
                  go_roundg (len - (i + 1))
                  case rel => exact ⟨i + 1, s', by omega, rfl, by go_num, hfz.out _ hO6.out⟩
                  case measure => omega
            · rw [hon] at cV3
              replace hon := Lib.hid hon
              go_wp2_with (first
                | (go_at_call 12; (with_reducible refine cV3.out.mono ?_); rintro e w4 ⟨a4, cap4, va4, vc4, V4, rfl, hV4, hO4, hH4⟩; replace hV4 := Lib.hid hV4; replace hO4 := Lib.hid hO4; replace hH4 := Lib.hid hH4)
                | (go_at_call 15; (with_reducible refine (cA3.out _ (hO4.out.alloc _)).mono ?_); rintro e w5 ⟨rfl, rfl⟩))
              have hfz := Lib.hid (fun (w6 : World) (ho : Own [] w4 w6) => (And.intro (hH4.out.nil' ho) hivs.out : EI w w6 n ⟨#[103]⟩ ⟨#[110]⟩ s'))
              clear hcW hO2 hH cT cS hd hH3 cT2
              go_loopg [7] s'.dev.length (fun m s7 w6 => ∃ k : Nat, k ≤ s'.dev.length ∧ m = s'.dev.length - k ∧ s7 = .int .i64 k ∧ Aside (Own [] w4 w6 ∧ w6.heap[w4.heap.size]? = some (.cells #[.string ⟨#[103]⟩, .string ⟨#[110]⟩, .bool false, .int .i64 0, .int .i64 0, .bool s'.pending, .slice a4 s'.items.length cap4, .slice va4 s'.dev.length vc4] 45 (0, 0))))
              case atStart => exact ⟨0, Nat.zero_le _, rfl, rfl, (Own.refl _ _).alloc _, heap_alloc_new _ _⟩
              case round =>
                obtain ⟨k, hk, rfl, rfl, hO6, hr6⟩ := hrel
                obtain ⟨⟨x0, x1, x2, x3, x4, x5, x6, x7⟩, _⟩ := blk8 hr6
                have hO6s := Lib.hid hO6
                have hr6d := Lib.hid (fun m => (show (World.drewN _ m).heap[w4.heap.size]? = _ from hr6))
                by_cases hkl : k < s'.dev.length
                · obtain ⟨b1, o1, a1, c1, rfl, f0, f1, f2, hl1, _⟩ := dv_at (hV4.out.nil' hO6) hkl (List.getElem?_eq_getElem hkl)
                  have hyl : decide ((32 : Int) < ((s'.dev[k]).items.length : Int)) = false := by simp; omega
                  have hq1 : (k : Int) < (s'.dev.length : Int) := by omega
                  have hq0 : (0 : Int) ≤ k := by omega
                  have hk4 : k ≤ 4 := by omega
                  have hyo : false = true ∨ (s'.dev[k]).on = false := by
                    rcases hoff.out with h1 | h1
                    · exact .inl (by rw [← h1, hon.out])
                    · exact .inr (h1 _ (List.getElem_mem hkl))
                  rcases Nat.eq_zero_or_pos k with hk0 | hk0
                  · subst hk0
                    clear hr6 hO6
                    simp only [Nat.zero_mul, Nat.add_zero] at f0 f1 f2
                    generalize s'.dev[0] = y at *
                    have hy : y.on = false := by rcases hyo with h1 | h1; cases h1; exact h1
                    rw [hy] at f1
                    go_wp2_with fail
                    go_quiet (fail)
                    go_wp2_with fail
                    go_roundg (s'.dev.length - (0 + 1))
                    case rel => exact ⟨0 + 1, by omega, rfl, by go_num, hO6s.out.drewN _, hr6d.out _⟩
                    case measure => omega
                  · obtain ⟨b2, o2, a2, c2, e2, g0, _⟩ := dv_at (k := k - 1) (hV4.out.nil' hO6) (by omega) (List.getElem?_eq_getElem (by omega))
                    cases e2
                    have hless := List.pairwise_iff_getElem.1 hris.out (k - 1) k (by omega) hkl (by omega)
                    have hl2 := sless_asymm hless
                    have hl3 : ((s'.dev[k]).name.toList == (s'.dev[k - 1]).name.toList) = false := by
                      cases hq : ((s'.dev[k]).name.toList == (s'.dev[k - 1]).name.toList) with
                      | false => rfl
                      | true =>
                        have := toList_inj (by simpa using hq : (s'.dev[k]).name.toList = (s'.dev[k - 1]).name.toList)
                        rw [this, sless_irrefl] at hless; cases hless
                    unfold sless at hl2
                    have hp1 : IntKind.i64.wrap ((k : Int) - 1) = ((k - 1 : Nat) : Int) := by rw [IntKind.wrap_i64]; omega
                    have hp2 : ((k - 1 : Nat) : Int) < (s'.dev.length : Int) := by omega
                    have hk1 : decide ((0 : Int) < (k : Int)) = true := by simp; omega
                    have hk2 : decide (0 < k) = true := by simp; omega
                    have hp0 : (0 : Int) ≤ ((k - 1 : Nat) : Int) := by omega
                    generalize (s'.dev[k - 1]) = z at *
                    generalize (s'.dev[k]) = y at *
                    generalize k - 1 = kp at *
                    clear hr6 hO6 hless hk0
                    have hy : y.on = false := by rcases hyo with h1 | h1; cases h1; exact h1
                    rw [hy] at f1
                    go_wp2_with fail
                    go_quiet (fail)
                    go_wp2_with fail
                    go_roundg (s'.dev.length - (k + 1))
                    case rel => exact ⟨k + 1, by omega, rfl, by go_num, hO6s.out.drewN _, hr6d.out _⟩
                    case measure => omega
                · clear hr6
                  replace hO6 := Lib.hid hO6
                  go_wp2_with fail
                  go_roundg (len - (i + 1))
                  case rel => exact ⟨i + 1, s', by omega, rfl, by go_num, hfz.out _ hO6.out⟩
                  case measure => omega
        · have hd : decide (x.p.M.length ≤ 40) = false := by simpa using hsm
          rw [hd] at cS
          replace cS := Lib.hid fun W => cS W
          replace hH := Lib.hid hH
          clear cT hP hsm
          go_wp2_with (go_at_call 14; (with_reducible refine (cS.out _).mono ?_); rintro e w2 ⟨rfl, hO2⟩; replace hO2 := Lib.hid (hH.out.nil' hO2))
          go_roundg (len - (i + 1))
          case rel => exact ⟨i + 1, s, by omega, rfl, by go_num, hO2.out⟩
          case measure => omega
      · replace hH := Lib.hid hH
        go_wp2_with (go_at_call 13; (with_reducible refine (AW.out _).mono ?_); rintro e w7 ⟨rfl, hO7⟩; replace hO7 := Lib.hid (hH.out.1.own.trans hO7))
        go_ret
        exact ⟨rfl, hO7.out.below (Nat.le_refl _) (by simp)⟩
    · replace hH := Lib.hid hH
      go_wp2_with (go_at_call 13; (with_reducible refine (AW.out _).mono ?_); rintro e w7 ⟨rfl, hO7⟩; replace hO7 := Lib.hid (hH.out.1.own.trans hO7))
      go_ret
      exact ⟨rfl, hO7.out.below (Nat.le_refl _) (by simp)⟩
end Go.Proofs.YtjfmbjgniajagaaGreatDoor
