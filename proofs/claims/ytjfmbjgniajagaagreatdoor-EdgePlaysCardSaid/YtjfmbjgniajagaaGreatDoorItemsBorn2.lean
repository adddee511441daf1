/- The items of a birth: Born, and the document's Born. -/
import Derived.Test.YtjfmbjgniajagaaGreatDoorItemsBorn
namespace Go.Proofs.YtjfmbjgniajagaaGreatDoor
open Go.RowKit

def Born2Post (r : Int × List Itm) (w : World) (e : Ending) (w' : World) : Prop :=
  ∃ a cap, e = .returned (.tuple #[.slice a r.2.length cap, .int .i64 r.1]) ∧ OutRow w.heap.size w' a cap r.2 ∧ Own [] w w'
theorem bornp_any (a : Option Addr) (M : List Met) (cap : Nat) (w : World) (h : MetsAt w a M) (hE : Errs w) :
    Calls Tryz.prog 50 #[.slice a M.length cap] w (Born2Post (bornL M) w) := by
  have B := born_any a M cap w h
  generalize bornL M = r at B ⊢
  unfold BornPost at B
  replace B := Lib.hid B
  replace hE := Lib.hid hE
  go_enter Tryz.func50, Tryz.ntmps50
  go_wp2_with fail
  refine B.out.mono ?_
  rintro e w2 ⟨a2, cap2, er, rfl, hR, hO, hor⟩
  have hE2 := hE.out.nil hO
  replace hR := Lib.hid hR
  replace hO := Lib.hid hO
  rcases hor with ⟨h1, rfl⟩ | ⟨q, rfl, hq⟩
  · replace h1 := Lib.hid h1
    go_wp2_with fail
    refine (code_nil _).mono ?_
    rintro e w3 ⟨rfl, hO2⟩
    replace hO2 := Lib.hid hO2
    go_wp2_with fail
    go_ret2
    exact ⟨a2, cap2, by rw [h1.out]; rfl, hR.out.nil' hO2.out, hO.out.trans hO2.out⟩
  · have C := code_hit q r.1 w2 hE2 hq
    replace C := Lib.hid C
    clear hE2 hq
    go_wp2_with fail
    refine C.out.mono ?_
    rintro e w3 ⟨rfl, hO2⟩
    replace hO2 := Lib.hid hO2
    go_wp2_with fail
    go_ret2
    exact ⟨a2, cap2, rfl, hR.out.nil' hO2.out, hO.out.trans hO2.out⟩

set_option maxRecDepth 100000 in
set_option maxHeartbeats 8000000 in
theorem rborn_any (a : Option Addr) (M : List Met) (cap : Nat) (w : World) (h : MetsAt w a M) :
    Calls Tryz.prog 68 #[.slice a M.length cap] w (Born2Post (bornL M) w) := by
  have hl := h.1
  obtain ⟨i0, hi, hz0, hz1, hz2⟩ := info_parts itmInfo
  unfold bornL
  by_cases hn : 32 < M.length
  · rw [if_pos hn]
    go_enter Tryz.func68, Tryz.ntmps68
    go_wp2_with fail
    go_ret2
    exact ⟨none, 0, rfl, OutRow.nil _ _, Own.refl _ _⟩
  · rw [if_neg hn]
    generalize hr : bornGo M [] = r
    replace hr := Lib.hid hr
    replace h := Lib.hid h
    go_enter Tryz.func68, Tryz.ntmps68
    go_wp2_with fail
    go_loopg [4, 5] M.length (fun g s4 s13 wr => ∃ (k : Nat) (oa : Option Addr) (oc : Nat) (L : List Itm), k ≤ M.length ∧ g = M.length - k ∧ s13 = .int .i64 k ∧ s4 = .slice oa k oc ∧ L.length = k ∧
      Aside (OutRow w.heap.size wr oa oc L ∧ Own [] w wr ∧ bornGo (M.drop k) L = r))
    case atStart => exact ⟨0, none, 0, [], by omega, by omega, rfl, rfl, rfl, OutRow.nil _ _, Own.refl _ _, hr.out⟩
    case round =>
      obtain ⟨k, oa, oc, L, hk, rfl, rfl, rfl, hL, hA⟩ := hrel
      obtain ⟨hR, hO, hG⟩ := hA
      by_cases hlt : k < M.length
      · obtain ⟨b, o, rfl, hb, hwf, hc⟩ := (h.out.nil' hO).met hlt
        rw [List.drop_eq_getElem_cons hlt] at hG
        generalize M[k] = x at hc hG hwf
        have hxw := ofM_wf hwf
        have F := rof_any x
        unfold OfPost at F
        generalize hy : ofM x = y at F hxw hG
        replace hy := Lib.hid hy
        have hPl := itPlace_lt L x.name
        have hpi : itPlace L x.name = (match itIdx L x.name with | some i => (i : Int) | none => -1) := rfl
        have hP := rplace_any oa L oc x.name wr (hR.at_ (by omega))
        have hown := fun (w1 : World) (hO1 : Own [] wr w1) => (hR.nil' hO1).own
        rw [hL] at hP hown
        obtain ⟨nm, hs, al, ti, ty, hi_, tr, nu, ⟨x1, y1, z1⟩, ⟨x2, y2, z2⟩, vk, vn, vs, ⟨x3, y3, z3⟩, ⟨x4, y4, z4⟩⟩ := x
        have c0 := hc 0 _ rfl
        have c1 := hc 1 _ rfl
        have c2 := hc 2 _ rfl
        have c3 := hc 3 _ rfl
        have c4 := hc 4 _ rfl
        have c5 := hc 5 _ rfl
        have c6 := hc 6 _ rfl
        have c7 := hc 7 _ rfl
        have c8 := hc 8 _ rfl
        have c9 := hc 9 _ rfl
        have c10 := hc 10 _ rfl
        have c11 := hc 11 _ rfl
        have c12 := hc 12 _ rfl
        have c13 := hc 13 _ rfl
        have c14 := hc 14 _ rfl
        simp only [Nat.add_zero] at c0 c1 c2 c3 c4 c5 c6 c7 c8 c9 c10 c11 c12 c13 c14
        simp only at hPl hP hpi hG
        unfold bornGo at hG
        replace hG := Lib.hid hG
        unfold Met.val Met.cells at F
        simp only at F
        replace F := Lib.hid F
        replace hP := Lib.hid hP
        replace hown := Lib.hid hown
        replace hR := Lib.hid hR
        replace hO := Lib.hid hO
        replace hL := Lib.hid hL
        clear hc hwf
        by_cases hne : nm.toList.isEmpty = true
        · have hr7 : r = (7, []) := by have := hG.out; rw [if_pos hne] at this; exact this.symm
          replace hr7 := Lib.hid hr7
          clear c1 c2 c3 c4 c5 c6 c7 c8 c9 c10 c11 c12 c13 c14
          go_wp2_with fail
          go_ret2
          rw [hr7.out]
          exact ⟨none, 0, rfl, OutRow.nil _ _, hO.out⟩
        · have hne' : nm.toList.isEmpty = false := by simpa using hne
          replace hG := Lib.hid (by have := hG.out; rw [if_neg hne] at this; exact this)
          clear hne
          cases hidx : itIdx L nm with
          | some i =>
            have hpv : itPlace L nm = i := by rw [hpi, hidx]
            have hr10 : r = (10, []) := by have := hG.out; rw [hidx] at this; simpa using this.symm
            rw [hpv] at hP
            replace hr10 := Lib.hid hr10
            clear hpv hpi hPl hG hidx c1 c2 c3 c4 c5 c6 c7 c8 c9 c10 c11 c12 c13 c14
            go_wp2_with fail
            refine hP.out.mono ?_
            rintro e w3 ⟨rfl, rfl⟩
            go_wp2_with fail
            go_ret2
            rw [hr10.out]
            exact ⟨none, 0, rfl, OutRow.nil _ _, hO.out⟩
          | none =>
            have hpv : itPlace L nm = -1 := by rw [hpi, hidx]
            have hG2 : bornGo (M.drop (k + 1)) (L ++ [y]) = r := by have := hG.out; rw [hidx] at this; simpa [hy.out] using this
            rw [hpv] at hP
            replace hG2 := Lib.hid hG2
            clear hpv hpi hPl hG hidx
            go_wp2_with fail
            refine hP.out.mono ?_
            rintro e w3 ⟨rfl, rfl⟩
            go_wp2_with fail
            refine (F.out _).mono ?_
            rintro e w3 ⟨rfl, hO4⟩
            have hO5 := hO.out.trans hO4
            obtain ⟨nm', hs', al', ty', nu', vk', vn', vs'⟩ := y
            unfold Itm.val
            have hA1 := (Own.refl [] w3).alloc (.cells #[.string nm', .bool hs', .int .u64 al', .int .u32 ty', .bool nu', .int .i64 vk', .int .u64 vn', .string vs'] 83)
            have hownA := Lib.hid (hown.out _ (hO4.trans hA1))
            have hRA := Lib.hid (hR.out.nil' (hO4.trans hA1))
            have hOA := Lib.hid (hO5.trans hA1)
            have hnew := Lib.hid (World.news_of_block (heap_alloc_new w3 (.cells #[.string nm', .bool hs', .int .u64 al', .int .u32 ty', .bool nu', .int .i64 vk', .int .u64 vn', .string vs'] 83)))
            have hone := Lib.hid (itm_one ⟨nm', hs', al', ty', nu', vk', vn', vs'⟩)
            unfold Itm.cells
            clear c0 c1 c2 c3 c4 c5 c6 c7 c8 c9 c10 c11 c12 c13 c14 hO4 hA1 hO5
            go_wp2_with (at_builtin; refine wpList_append_own_at _ rfl (.tmp 29) (.tmp 35) 42 rfl 0 83 i0 _ 8 72 Tryz.underlying42 hi hz0 hz1 hz2 rfl (by omega) (.slice oa k oc) k (rowOf Itm.cells L) rfl hownA.out ⟨w3.heap.size, 0, none⟩ 1 1 [.string nm', .bool hs', .int .u64 al', .int .u32 ty', .bool nu', .int .i64 vk', .int .u64 vn', .string vs'] rfl rfl hnew.out hone.out (by unfold maxLen; omega) (by omega) (Nat.zero_le _) ?_; intro v2 w4 hown2 hgrow hnil hat; obtain ⟨a2, cap2, rfl, hR2, hO2⟩ := OutRow.push hRA.out hxw hL.out.symm hOA.out hown2 hgrow hnil hat; clear hown2 hgrow hnil hat; replace hR2 := Lib.hid hR2; replace hO2 := Lib.hid hO2)
            go_roundg (M.length - (k + 1))
            case measure => omega
            case rel => exact ⟨k + 1, a2, cap2, _, by omega, rfl, by go_num, rfl, by have := hL.out; simp [this], hR2.out, hO2.out, hG2.out⟩
      · obtain rfl : k = M.length := by omega
        rw [List.drop_eq_nil_of_le (Nat.le_refl _)] at hG
        have hr1 : r = (1, L) := by unfold bornGo at hG; exact hG.symm
        replace hr1 := Lib.hid hr1
        replace hR := Lib.hid hR
        replace hO := Lib.hid hO
        replace hL := Lib.hid hL
        clear hG
        go_wp2_with fail
        go_ret2
        rw [hr1.out]
        exact ⟨oa, oc, by simp only [hL.out]; rfl, hR.out, hO.out⟩
end Go.Proofs.YtjfmbjgniajagaaGreatDoor
