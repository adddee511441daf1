/- AliasPlays: any owners' aliases, and whom they stand for. -/
import Derived.Test.YtjbmmgclkhigiaaAliasPair
import Derived.Test.YtjbmmgclkhigiaaAliasAwake
import Derived.Deep.LoopGhost
import Derived.Deep.RegionHeld3
import Derived.Deep.DeepCutAuto
set_option linter.unusedSimpArgs false
set_option linter.unusedVariables false
namespace Go.Proofs.Ytjbmmgclkhigiaa
open Go.RowKit

theorem rfind_row {R : ATab} (hn : (R.map (·.1)).Nodup) {j : Nat} (hj : j < R.length) : rFind R (rAt R j).2.1 (rAt R j).1 = ((rAt R j).2.2, true) := by
  refine rFind_some hj (fun i hi => ?_) (by simp [rHit])
  unfold rHit
  have : (rAt R i).1 ≠ (rAt R j).1 := fun e => by
    have h1 : (R.map (·.1))[i]? = some (rAt R i).1 := by rw [List.getElem?_map, rAt_get (by omega)]; rfl
    have h2 : (R.map (·.1))[j]? = some (rAt R j).1 := by rw [List.getElem?_map, rAt_get hj]; rfl
    rw [e] at h1
    have := (List.getElem?_inj (by simpa using (by omega : i < R.length)) hn).1 (h1.trans h2.symm)
    omega
  have e : ((rAt R i).1 == (rAt R j).1) = false := by simpa using this
  rw [e, Bool.and_false]
set_option maxRecDepth 100000 in
set_option maxHeartbeats 16000000 in
theorem alias_plays (a : Option Addr) (len cap : Nat) (ms : Nat → PAct) (ow : ByteArray) (nn : Int) (w : World) (hA : PActs w a len ms) (_ho1 : ow.size ≤ 140737488351232) (_ho : (Lit.int .u64 nn).wf = true) :
    Calls Try.prog 5 #[.slice a len cap, .string ow, .int .u64 nn] w fun e w' => e = .returned (.bool true) ∧ Below w.heap.size w w' := by
  clear _ho1 _ho
  have AW := Lib.hid (fun W => awake_any W)
  have hlen : len ≤ 9223372036854775807 := by have := hA.1; unfold maxLen at this; omega
  replace hA := Lib.hid hA
  go_enter Try.func5, Try.ntmps5
  go_wp2_with fail
  refine (new_any w).mono ?_
  rintro e w1 ⟨b, m, rfl, hT, hb, hm, hO⟩
  have hM : M30 w (w1.alloc (.cells #[.slice none 0 0] 46)) b m w1.heap.size none [] [] := by
    have hO2 : Own [] w1 (w1.alloc (.cells #[.slice none 0 0] 46)) := (Own.refl _ _).alloc _
    have hlt := hT.lt
    exact ⟨.slice none 0 0, hT.own hO2 (by simp) (by simp), ⟨heap_alloc_new _ _, ⟨rfl, .inl ⟨rfl, rfl⟩⟩, by simp [Value.ownBlock]⟩, (hO.trans hO2).below (Nat.le_refl _) (by simp), hb, hm, hO.size, by omega, by omega, (fun g hg => by cases hg), (fun p hp => by cases hp)⟩
  replace hM := Lib.hid hM
  generalize hxb : w1.heap.size = xb at *
  clear hT hO hb hm
  go_wp2_with fail
  go_loopg [9] len (fun g s9 wr => ∃ (i : Nat) (l R : ATab), i ≤ len ∧ g = len - i ∧ s9 = .int .i64 i ∧ i ≤ 40 ∧ Aside (M30 w wr b m xb none l R ∧ l.Perm R ∧ l.length ≤ 64))
  case atStart => exact ⟨0, [], [], Nat.zero_le _, rfl, rfl, by omega, hM.out, List.Perm.refl _, by simp⟩
  case round =>
    obtain ⟨i, l, R, hi, rfl, rfl, hi4, hH, hp, hl⟩ := hrel
    by_cases hlt : i < len ∧ i < 40
    · obtain ⟨h1, h2⟩ := hlt
      obtain ⟨pb, po, rfl, hpb, hI, c0, c1, c2⟩ := hA.out.at_ hH.below h1
      have h40 : (i : Int) < 40 := by omega
      have hi0 : (0 : Int) ≤ i := by omega
      have hil : (i : Int) < len := by omega
      generalize ms i = y at *
      obtain ⟨k, ow2, ya, L, yc⟩ := y
      simp only at hI c0 c1 c2
      by_cases hbig : 100 < L.length
      · have hB := Lib.hid hH.below
        have hLb : (100 : Int) < L.length := by omega
        clear hH hI hA
        go_wp2_with (go_at_call 7; (with_reducible refine (AW.out _).mono ?_); rintro e w7 ⟨rfl, hO7⟩; replace hO7 := Lib.hid hO7)
        go_ret
        have hO8 := ((Own.refl [] wr).alloc (.cells #[.int .i64 k, .string ow2, .slice ya L.length yc] 48)).trans hO7.out
        exact ⟨rfl, hB.out.trans (hO8.below hB.out.size (by simp))⟩
      · have hLb : (L.length : Int) ≤ 100 := by omega
        replace hp := Lib.hid hp
        replace hH := Lib.hid hH
        replace hI := Lib.hid hI
        go_upto_block 2 with fail
        obtain ⟨W1, hW1⟩ : ∃ W1 : World, W1 = wr.alloc (.cells #[.int .i64 k, .string ow2, .slice ya L.length yc] 48) := ⟨_, rfl⟩
        have hM1 : M30 w W1 b m xb (some (wr.heap.size, .cells #[.int .i64 k, .string ow2, .slice ya L.length yc] 48 (0, 0))) l R := by
          rw [hW1]
          exact hH.out.put ((Own.refl _ _).alloc _) (Nat.le_refl _) (heap_alloc_new _ _)
        rw [← hW1]
        generalize wr.heap.size = q at *
        replace hM1 := Lib.hid hM1
        replace hA := Lib.hid hA
        clear hW1 c0 c1 c2 hbig hLb
        go_cut [11] from 22 to 169 (fun s11 wx => s11 = .bool true ∧ ∃ l' R' : ATab, Aside (M30 w wx b m xb (some (q, .cells #[.int .i64 k, .string ow2, .slice ya L.length yc] 48 (0, 0))) l' R') ∧ Aside (l'.Perm R') ∧ l'.length ≤ 64)
        case first =>
          have hrl : R.length ≤ 64 := by rw [hp.out.symm.length_eq]; exact hl
          have hlab : ∀ (l R : ATab) (W : World), M30 w W b m xb (some (q, .cells #[.int .i64 k, .string ow2, .slice ya L.length yc] 48 (0, 0))) l R → W.cell? ⟨q, 1, none⟩ = some (.string ow2) ∧ W.cell? ⟨q, 2, none⟩ = some (.slice ya L.length yc) := fun _ _ _ h => ⟨cell_of_row _ q 1 _ _ _ h.aside, cell_of_row _ q 2 _ _ _ h.aside⟩
          obtain ⟨d1, d2⟩ := hlab _ _ _ hM1.out
          by_cases k0 : k = 0 ∨ k = 1
          · have hS := (M30.set (hM1.out.nil' (Own.refl _ _).drew) ow2 ya L yc hI.out hl)
            have hR := fun l W (h : M30 w W b m xb (some (q, .cells #[.int .i64 k, .string ow2, .slice ya L.length yc] 48 (0, 0))) l R) => h.rset ow2 ya L yc hI.out hrl
            obtain ⟨e1, e2⟩ := set_like hp.out ow2 L
            have e3 := aSet_len (ow := ow2) (L := L) hl
            rw [← e1] at hR
            generalize aSet l ow2 L = ra at hS hR e1 e2 e3
            generalize (rSet R ow2 L).2 = r2 at hR e2
            obtain ⟨ra1, ra2⟩ := ra
            simp only at hS hR e2 e3
            replace hS := Lib.hid hS
            replace hR := Lib.hid hR
            replace hlab := Lib.hid hlab
            replace e2 := Lib.hid e2
            clear e1
            have hk01 : (k == 0) = true ∨ ((k == 0) = false ∧ (k == 1) = true) := by
              rcases k0 with rfl | rfl
              · exact .inl rfl
              · exact .inr ⟨rfl, rfl⟩
            rcases hk01 with hk0 | ⟨hk0, hk1⟩
            all_goals
              go_wp2_with fail
              go_region_held3 (fun W => W.cell? ⟨q, 1, none⟩ = some (.string ow2) ∧ W.cell? ⟨q, 2, none⟩ = some (.slice ya L.length yc))
                (first | go_keep | exact kA | exact kB)
                ((first
                  | (go_at_call 9; (with_reducible refine hS.out.mono ?_); rintro e w2 ⟨rfl, hM2⟩; have kA := hlab.out _ _ _ hM2; have hR2 := Lib.hid (hR.out _ _ hM2); clear hM2)
                  | (go_at_call 15; (with_reducible refine hR2.out.mono ?_); rintro e w3 ⟨rfl, hM3⟩; have kB := hlab.out _ _ _ hM3; replace hM3 := Lib.hid hM3)))
              all_goals
                go_wp2_with fail
                go_meet
                case rel => exact ⟨by simp, _, _, hM3.out, e2.out, e3⟩
          · have hk0 : (k == 0) = false := by have : ¬ k = 0 := fun h => k0 (.inl h); simpa using this
            have hk1 : (k == 1) = false := by have : ¬ k = 1 := fun h => k0 (.inr h); simpa using this
            have hlo := (others_like hp.out ow2)
            have hlen := List.length_filter_le (fun p : Int × Stands => !(p.2.1 == ow2)) l
            by_cases k2 : k = 2
            · have hk2 : (k == 2) = true := by simpa using k2
              have hS := (M30.drop (hM1.out.nil' (Own.refl _ _).drew) ow2 hl)
              have hR := fun l W (h : M30 w W b m xb (some (q, .cells #[.int .i64 k, .string ow2, .slice ya L.length yc] 48 (0, 0))) l R) => h.rdrop ow2 hrl
              have hle : (aOthers l ow2).length ≤ l.length := hlen
              rw [← hlo.length_eq, ← hp.out.length_eq, ← Int.ofNat_sub hle] at hR
              have e3 : (aOthers l ow2).length ≤ 64 := by omega
              generalize aOthers l ow2 = l2 at hS hR hlo e3
              generalize aOthers R ow2 = r2 at hR hlo
              generalize l.length - l2.length = dn at hS hR
              replace hS := Lib.hid hS
              replace hR := Lib.hid hR
              replace hlab := Lib.hid hlab
              replace hlo := Lib.hid hlo
              clear hlen hle k0 k2
              go_wp2_with fail
              go_region_held3 (fun W => W.cell? ⟨q, 1, none⟩ = some (.string ow2) ∧ W.cell? ⟨q, 2, none⟩ = some (.slice ya L.length yc))
                (first | go_keep | exact kA | exact kB)
                ((first
                  | (go_at_call 12; (with_reducible refine hS.out.mono ?_); rintro e w2 ⟨rfl, hM2⟩; have kA := hlab.out _ _ _ hM2; have hR2 := Lib.hid (hR.out _ _ hM2); clear hM2)
                  | (go_at_call 16; (with_reducible refine hR2.out.mono ?_); rintro e w3 ⟨rfl, hM3⟩; have kB := hlab.out _ _ _ hM3; replace hM3 := Lib.hid hM3)))
              all_goals
                go_wp2_with fail
                go_meet
                case rel => exact ⟨by simp, _, _, hM3.out, hlo.out, e3⟩
            · have hk2 : (k == 2) = false := by simpa using k2
              by_cases k3 : k = 3
              · have hk3 : (k == 3) = true := by simpa using k3
                have hM1d := hM1.out.nil' (Own.refl [] W1).drew
                obtain ⟨aR, cR, z0, _⟩ := hM1.out.rows
                obtain ⟨aR', cR', z0', _⟩ := hM1d.rows
                have hS := hM1d.clear
                have hz : ∀ (l : ATab) (W : World), Own [m] W1.drew W → M30 w W b m xb (some (q, .cells #[.int .i64 k, .string ow2, .slice ya L.length yc] 48 (0, 0))) l R → W.cell? ⟨xb, 0, none⟩ = some (.slice aR R.length cR) := fun l W ho h => by
                  obtain ⟨v, h1, h2, h3, h4, h5, h6, h7, h8, h9, h10⟩ := hM1d
                  have hx := lt_of_heap h2.row
                  exact (ho.cell (p := ⟨xb, 0, none⟩) hx (by simpa using h8)).trans z0
                have hS2 := (clear_any b m l W1.drew hM1d.tab)
                have hown := fun W (hT : Tab W b m []) (ho : Own [m] W1.drew W) => hM1d.own hT ho
                rw [hp.out.length_eq] at hS2
                replace hS2 := Lib.hid hS2
                replace hown := Lib.hid hown
                replace hz := Lib.hid hz
                clear hS z0' hlo hlen k0 k2 k3 d1 d2
                go_wp2_with fail
                go_region_held3 (fun W => W.cell? ⟨xb, 0, none⟩ = some (.slice aR R.length cR))
                  (first | go_keep | exact kA)
                  ((first
                    | (go_at_call 17; (with_reducible refine hS2.out.mono ?_); rintro e w2 ⟨rfl, hT2, hO2⟩; have hM2 := hown.out _ hT2 hO2; have kA := hz.out _ _ hO2 hM2; obtain ⟨vx, hx2⟩ := hM2.xrow; have fz2 := frozen_of_row w2 xb 0 _ _ hx2; clear hx2; have hM3 := Lib.hid hM2.wipe; clear hM2 hT2 hO2)))
                all_goals
                  go_wp2_with fail
                  go_meet
                  case rel => exact ⟨by simp, _, _, hM3.out, List.Perm.refl _, by simp⟩
              · have hk3 : (k == 3) = false := by simpa using k3
                have hS := (M30.try (hM1.out.nil' (Own.refl _ _).drew) ow2 ya L yc hI.out hl)
                have hR := fun W (h : M30 w W b m xb (some (q, .cells #[.int .i64 k, .string ow2, .slice ya L.length yc] 48 (0, 0))) l R) => h.rtry ow2 ya L yc hI.out hrl
                obtain ⟨e1, _⟩ := may_like hp.out ow2 L
                rw [← e1] at hR
                generalize (aMay l ow2 L).1 = rv at hS hR
                replace hS := Lib.hid hS
                replace hR := Lib.hid hR
                replace hlab := Lib.hid hlab
                clear e1 hlo hlen k0 k2 k3
                go_wp2_with fail
                go_region_held3 (fun W => W.cell? ⟨q, 1, none⟩ = some (.string ow2) ∧ W.cell? ⟨q, 2, none⟩ = some (.slice ya L.length yc))
                  (first | go_keep | exact kA | exact kB)
                  ((first
                    | (go_at_call 14; (with_reducible refine hS.out.mono ?_); rintro e w2 ⟨rfl, hM2⟩; have kA := hlab.out _ _ _ hM2; have hR2 := Lib.hid (hR.out _ hM2); clear hM2)
                    | (go_at_call 18; (with_reducible refine hR2.out.mono ?_); rintro e w3 ⟨rfl, hM3⟩; have kB := hlab.out _ _ _ hM3; replace hM3 := Lib.hid hM3)))
                all_goals
                  go_wp2_with fail
                  go_meet
                  case rel => exact ⟨by simp, _, _, hM3.out, hp.out, hl⟩
        case rest =>
          obtain ⟨rfl, l2, R2, hM2, hp2, hl2⟩ := hcut
          have hM3 := hM2.off
          have hnd := hM3.tab.nodup
          have hnd2 : (R2.map (·.1)).Nodup := (hp2.map _).nodup_iff.1 hnd
          have hr2 : R2.length ≤ 64 := by rw [hp2.symm.length_eq]; exact hl2
          have cS := Lib.hid (hM3.same hp2 hl2)
          have hfl := Lib.hid fun o q => find_like hp2 hnd o q
          have hrow := Lib.hid fun j (hj : j < R2.length) => rfind_row hnd2 hj
          replace hp2 := Lib.hid hp2
          clear hM2 hM3 hM1 hI hp hl hH hnd hnd2
          go_wp2_with (go_at_call 19; (with_reducible refine cS.out.mono ?_); rintro e w4 ⟨rfl, hM4⟩; replace hM4 := Lib.hid hM4; clear cS)
          have hM4r := hM4.out.rows
          obtain ⟨aR, cR, hz4, _⟩ := hM4r
          go_loopg [12] R2.length (fun g s12 wr => ∃ j : Nat, j ≤ R2.length ∧ g = R2.length - j ∧ s12 = .int .i64 j ∧ Aside (M30 w wr b m xb none l2 R2))
          case atStart => exact ⟨0, Nat.zero_le _, rfl, rfl, hM4.out⟩
          case round =>
            obtain ⟨j, hj, rfl, rfl, hM5⟩ := hrel
            obtain ⟨a5, c5, z5, hrows⟩ := hM5.rows
            by_cases hjl : j < R2.length
            · have hf := hrow.out j hjl
              obtain ⟨_, hr5⟩ := hrows wr (Own.refl _ _)
              obtain ⟨g5, rfl, d0, d1, d2⟩ := hr5 j hjl
              have hcells : ∀ W, Own [] wr W → W.cell? ⟨xb, 0, none⟩ = some (.slice (some ⟨g5, 0, none⟩) R2.length c5) ∧ W.cell? ⟨g5, j * 3, none⟩ = some (.int .u64 (rAt R2 j).1) ∧ W.cell? ⟨g5, j * 3 + 1, none⟩ = some (.string (rAt R2 j).2.1) ∧ W.cell? ⟨g5, j * 3 + 2, none⟩ = some (.string (rAt R2 j).2.2) := fun W ho => by
                obtain ⟨q0, hq⟩ := hrows W ho
                obtain ⟨g6, e6, q1⟩ := hq j hjl
                cases e6
                exact ⟨q0, q1⟩
              have cF := find_any b m l2 (rAt R2 j).2.1 (rAt R2 j).1 wr.drew (hM5.nil' (Own.refl [] wr).drew).tab
              rw [hfl.out, hf] at cF
              generalize rAt R2 j = y at *
              obtain ⟨y1, y2, y3⟩ := y
              simp only at cF hcells d0 d1 d2
              have hj0 : (0 : Int) ≤ j := by omega
              have hj1 : (j : Int) < R2.length := by omega
              replace hcells := Lib.hid hcells
              replace cF := Lib.hid cF
              replace hM5 := Lib.hid hM5
              clear hrows hr5 hf hM4 hz4
              go_wp2_with fail
              go_region_held3 (fun W => W.cell? ⟨xb, 0, none⟩ = some (.slice (some ⟨g5, 0, none⟩) R2.length c5) ∧ W.cell? ⟨g5, j * 3, none⟩ = some (.int .u64 y1) ∧ W.cell? ⟨g5, j * 3 + 1, none⟩ = some (.string y2))
                (first | go_keep | exact kA)
                ((first | (go_at_call 10; (with_reducible refine cF.out.mono ?_); rintro e w6 ⟨rfl, hO6⟩; have hO7 := (Own.refl [] wr).drew.trans hO6; have kB := hcells.out _ hO7; have kA := And.intro kB.1 (And.intro kB.2.1 kB.2.2.1); have x0 := kB.1; have x2 := kB.2.2.2; replace hO7 := Lib.hid hO7; clear hO6)))
              all_goals
                go_wp2_with fail
                go_roundg (R2.length - (j + 1))
                case measure => omega
                case rel => exact ⟨j + 1, by omega, rfl, by go_num, hM5.out.nil' hO7.out⟩
            · obtain rfl : j = R2.length := by omega
              have c1 := Lib.hid (hM5.find ow nn)
              have c2 := fun W (h : M30 w W b m xb none l2 R2) => h.rfind ow nn hr2
              rw [hfl.out] at c1
              generalize rFind R2 ow nn = rv at c1 c2
              obtain ⟨rv1, rv2⟩ := rv
              replace c2 := Lib.hid c2
              clear hM5 hrows hM4 hz4
              go_wp2_with (first
                | (go_at_call 10; (with_reducible refine c1.out.mono ?_); rintro e w6 ⟨rfl, hM6⟩; have c3 := Lib.hid (c2.out _ hM6); clear hM6)
                | (go_at_call 20; (with_reducible refine c3.out.mono ?_); rintro e w7 ⟨rfl, hM7⟩; replace hM7 := Lib.hid hM7))
              go_roundg (len - (i + 1))
              case measure => omega
              case rel => exact ⟨i + 1, l2, R2, by omega, rfl, by go_num, by omega, hM7.out, hp2.out, hl2⟩
    · have hex : (¬ i < len) ∨ (i < len ∧ ¬ ((i : Int) < 40)) := by
        by_cases h1 : i < len
        · exact .inr ⟨h1, fun h2 => hlt ⟨h1, by omega⟩⟩
        · exact .inl h1
      have hB := Lib.hid hH.below
      clear hlt hH hA hp
      rcases hex with h1 | ⟨h1, h2⟩
      all_goals
        go_wp2_with (go_at_call 7; (with_reducible refine (AW.out _).mono ?_); rintro e w7 ⟨rfl, hO7⟩; replace hO7 := Lib.hid hO7)
        go_ret
        exact ⟨rfl, hB.out.trans (hO7.out.below hB.out.size (by simp))⟩
end Go.Proofs.Ytjbmmgclkhigiaa
