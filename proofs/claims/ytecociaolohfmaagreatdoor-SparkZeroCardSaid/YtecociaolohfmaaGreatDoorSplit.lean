/- Package level: Split. -/
import Derived.Test.YtecociaolohfmaaGreatDoorUtf
import Derived.Test.YtecociaolohfmaaGreatDoorNew
import Derived.Test.YtecociaolohfmaaGreatDoorLevels
import Derived.ScopeJumps
import Derived.WalkMore
import Derived.Laws.MakeOwn
import Derived.Deep.AppendLies
import Derived.Deep.RegionLaw
import Derived.IntWalk
namespace Go.Proofs.YtecociaolohfmaaGreatDoor
open Go.RowKit Go.Lib Go.Shelf

def lEnc (x : ByteArray) : List Value := [.string x]
theorem lEnc_len (x : ByteArray) : (lEnc x).length = 1 := rfl
theorem lInfo : (Tryz.prog.info? 9).map (fun i => (i.zero, i.size, i.bytes)) = some (some (.string ⟨#[]⟩), 1, 16) := by kernel_rfl
theorem lElem : Elem Tryz.prog 72 9 lEnc 1 16 where
  ut := Tryz.underlying72
  info := by obtain ⟨i, h1, h2, h3, h4⟩ := info_parts lInfo; exact ⟨i, _, h1, h2, h3, h4, rfl⟩
  pos := by omega
  len := lEnc_len
  one x u hu := by simp [lEnc] at hu; subst hu; rfl

theorem lMake (w : World) (C : Nat) (h : C ≤ 1048576) : ∃ w', (Instr.makeSlice 72 (.int .i64 0) (.int .i64 ((C : Int) + 1))).run Tryz.prog w = .ok (.slice (some ⟨w.heap.size, 0, none⟩) 0 (C + 1)) w' ∧ Sl 9 lEnc 1 w.heap.size w' (.slice (some ⟨w.heap.size, 0, none⟩) 0 (C + 1)) [] ∧ Own [] w w' := by
  obtain ⟨i, h1, h2, h3, h4⟩ := info_parts lInfo
  obtain ⟨w', hr, hO, hg⟩ := run_make_own (P := Tryz.prog) w w.heap.size 72 9 i _ 1 Tryz.underlying72 h1 h2 h3 .i64 .i64 (C + 1) (by rw [h4]; omega) (by unfold maxLen; omega) (Nat.le_refl _)
  exact ⟨w', by simpa using hr, hO, ⟨hg.os, hg.tape, hg.output, hg.size, fun k hk _ => hg.block k hk (by simp)⟩⟩
theorem cnt_le (l : List UInt8) (b : UInt8) : Lib.countByte l b ≤ l.length := by
  first | exact List.count_le_length | (unfold Lib.countByte; exact List.length_filter_le _ _) | (unfold Lib.countByte; exact List.countP_le_length)

def SplitPost (w : World) (s : ByteArray) (e : Ending) (w' : World) : Prop :=
  ∃ v, e = .returned v ∧ Sl 9 lEnc 1 w.heap.size w' v (levels s) ∧ Own [] w w'
def SplitJ (s : ByteArray) (w : World) (a' : Act) (w' : World) : Prop :=
  ∃ (r : ByteArray) (T : List ByteArray) (va u4 u5 u6 u7 u8 u9 u10 u11 u12 u13 u14 u15 u16 u17 u18 u19 u20 u21 u22 u23 u24 u25 u26 u27 u28 u29 u30 u31 : Value), a' = { tmps := #[.string r, undef, .slice none 0 0, va, u4, u5, u6, u7, u8, u9, u10, u11, u12, u13, u14, u15, u16, u17, u18, u19, u20, u21, u22, u23, u24, u25, u26, u27, u28, u29, u30, u31], defers := [] } ∧ Sl 9 lEnc 1 w.heap.size w' va T ∧ Own [] w w' ∧ T.length + r.size ≤ s.size ∧ Hid (T ++ levels r = levels s)
def strSize (a : Act) : Nat := match a.tmps.getD 0 undef with | .string r => r.size | _ => 0

set_option maxRecDepth 100000 in
set_option maxHeartbeats 4000000 in
theorem split_any (s : ByteArray) (w : World) (hs : s.size ≤ 1048576) :
    Calls Tryz.prog 24 #[.string s] w (SplitPost w s) := by
  have cC := Any.strings_Count_one Tryz.laysCount s 47 w
  have hC := cnt_le s.data.toList 47
  have hsz : s.data.toList.length = s.size := rfl
  rw [hsz] at hC
  generalize Lib.countByte s.data.toList 47 = C at cC hC
  obtain ⟨w1, hmk, hSl, hO1⟩ := lMake w C (by omega)
  have hc0 : (0 : Int) ≤ C := by omega
  have hc1 : (C : Int) ≤ 1048576 := by omega
  replace cC := Lib.hid cC
  clear hsz hC
  go_enter Tryz.func24, Tryz.ntmps24
  go_wp2_with fail
  refine wp_scope_jumps 0 (SplitJ s w) (fun a' _ => strSize a') rfl ?_ ?_
  · go_wp2_with (first | (go_at_call 53; refine cC.out.mono ?_; rintro e w2 ⟨rfl, hw2⟩; rw [hw2]; clear hw2 w2))
    go_step3
    go_wp2_with fail
    obtain ⟨wc, hwc⟩ : ∃ wc, wc = w1 := ⟨_, rfl⟩
    rw [← hwc]
    have hO : Own [] w wc := hwc ▸ hO1
    have hS := hwc ▸ hSl
    have hT : Hid ([] ++ levels s = levels s) := Lib.hid rfl
    have hsz : ([] : List ByteArray).length + s.size ≤ s.size := by simp
    replace hwc := Lib.hid hwc
    generalize ([] : List ByteArray) = T at hS hT hsz
    clear hmk hSl hO1 cC
    generalize (Value.slice (some ⟨w.heap.size, 0, none⟩) 0 (C + 1)) = va at hS ⊢
    go_loopg [0, 3, 12] (s.size + 1) (fun g s0 s3 _ wr => ∃ i : Nat, s0 = .string s ∧ s3 = va ∧ wr = wc.iter s i ∧ g = s.size + 1 - i ∧ i ≤ s.size ∧ Aside (NoCut s i))
    case atStart => exact ⟨0, rfl, rfl, rfl, rfl, Nat.zero_le _, (fun j h => by omega : NoCut s 0)⟩
    case round =>
      obtain ⟨i, rfl, rfl, rfl, hg, hi, hA⟩ := hrel
      replace hA := hA.out
      by_cases hlt : i < s.size
      · have hnx : ∀ ty, (Instr.next (.pointer (some ⟨wc.heap.size, 0, none⟩)) true ty).run Tryz.prog (wc.iter s i) = _ := fun ty => run_next_any wc s i ty hlt
        obtain ⟨d1, d2, d3⟩ := dec_cut hlt
        generalize Utf8.decode s i = dd at *
        obtain ⟨rune, wid⟩ := dd
        simp only at d1 d2 d3 hnx
        rcases d3 with ⟨d3, d4⟩ | ⟨d3, d4⟩
        · have h47 : ((rune : Int) == 47) = true := by simp; omega
          have hlv := levels_cut hA hlt d4
          have hsz2 : (s.extract (i + 1) s.size).size = s.size - (i + 1) := by simp [ByteArray.size_extract]
          have hT2 : (T ++ [s.extract 0 i]) ++ levels (s.extract (i + 1) s.size) = levels s := by rw [← hT.out, hlv]; simp
          obtain ⟨a1, c1, hva⟩ := hS.sl
          subst hva
          have hOb : Own [] w (((wc.iter s (i + wid)).drew).alloc (.cells #[.string (s.extract 0 i)] 9)) := ((hO.alloc (.stringIter s (i + wid))).drew).alloc _
          have hSb : Sl 9 lEnc 1 w.heap.size (((wc.iter s (i + wid)).drew).alloc (.cells #[.string (s.extract 0 i)] 9)) (.slice a1 T.length c1) T := hS.nil' ((((Own.refl [] wc).alloc (.stringIter s (i + wid))).drew).alloc _)
          have hRb := Reads.new (enc := lEnc) (T := 9) ((wc.iter s (i + wid)).drew) (s.extract 0 i) 1
          have hTl : (T ++ [s.extract 0 i]).length + (s.extract (i + 1) s.size).size ≤ s.size := by rw [hsz2]; simp; omega
          have hB1 : (T.length + [s.extract 0 i].length) * 16 ≤ 140737488355328 := by simp only [List.length_singleton]; omega
          have hB2 : T.length + [s.extract 0 i].length ≤ maxLen := by unfold maxLen; simp only [List.length_singleton]; omega
          have hw2 : (0 : Int) ≤ (i : Int) + 1 := by omega
          have hw3 : (i : Int) + 1 ≤ s.size := by omega
          have hw4 : ((i : Int) + 1).toNat = i + 1 := by omega
          have hw1 : IntKind.i64.wrap ((i : Int) + 1) = (i : Int) + 1 := IntWalk.i64_in _ (by omega)
          replace hB1 := Lib.hid hB1
          replace hB2 := Lib.hid hB2
          replace hTl := Lib.hid hTl
          replace hsz2 := Lib.hid hsz2
          replace hT2 := Lib.hid hT2
          replace hOb := Lib.hid hOb
          replace hg := Lib.hid hg
          clear hlv d3 d4 hA hO hS hT
          go_wp2_with fail
          go_region_law ((go_loud (refine step_append_new rfl (.tmp 18) (.tmp 22) (by rfl) lElem hOb.out (by rfl) hSb (by rfl) hRb hB1.out hB2.out ?_); intro va2 w5 hS5 hO5 _ _; obtain ⟨a2, c2, hva2⟩ := hS5.sl; subst hva2; rw [List.length_append, List.length_singleton] at hS5; have F := Lib.hid (And.intro hS5 (And.intro hO5 (And.intro hTl.out hT2))); clear hS5 hO5))
          all_goals
            go_wp2_with fail
            go_step3
            exact ⟨rfl, ⟨s.extract (i + 1) s.size, T ++ [s.extract 0 i], .slice a2 (T.length + 1) c2, _, _, _, _, _, _, _, _, _, _, _, _, _, _, _, _, _, _, _, _, _, _, _, _, _, _, _, _, rfl, F.out.1, F.out.2.1, F.out.2.2.1, F.out.2.2.2⟩⟩
        · have h47 : ((rune : Int) == 47) = false := by simp; omega
          have hA2 := Lib.hid (hA.step d4)
          replace hg := Lib.hid hg
          clear d3 d4 hA
          go_wp2_with fail
          go_roundg (s.size + 1 - (i + wid))
          case measure => have := hg.out; omega
          case rel => exact ⟨i + wid, rfl, rfl, rfl, rfl, d2, hA2.out⟩
      · obtain rfl : i = s.size := by omega
        have hnx : ∀ ty, (Instr.next (.pointer (some ⟨wc.heap.size, 0, none⟩)) true ty).run Tryz.prog (wc.iter s s.size) = _ := fun ty => run_next_end wc s s.size ty hlt
        have hlv := levels_one hA
        have hT2 : T ++ [s] = levels s := by rw [← hT.out, hlv]
        obtain ⟨a1, c1, hva⟩ := hS.sl
        subst hva
        have hOb : Own [] w ((wc.iter s s.size).alloc (.cells #[.string s] 9)) := (hO.alloc (.stringIter s s.size)).alloc _
        have hSb : Sl 9 lEnc 1 w.heap.size ((wc.iter s s.size).alloc (.cells #[.string s] 9)) (.slice a1 T.length c1) T := hS.nil' (((Own.refl [] wc).alloc (.stringIter s s.size)).alloc _)
        have hRb := Reads.new (enc := lEnc) (T := 9) (wc.iter s s.size) s 1
        have hTb : T.length ≤ 1048576 := by omega
        replace hT2 := Lib.hid hT2
        replace hOb := Lib.hid hOb
        clear hlv hg hA hO hS hT
        go_wp2_with (at_builtin; refine wpList_append_new rfl (.tmp 28) (.tmp 30) rfl lElem hOb.out rfl hSb rfl hRb (by simp only [List.length_singleton]; omega) (by unfold maxLen; simp only [List.length_singleton]; omega) ?_; intro va2 w5 hS5 hO5 _ _; rw [hT2.out] at hS5; have F := Lib.hid (And.intro hS5 hO5); clear hS5 hO5)
        simp only [Exit.jump]
        go_ret
        exact ⟨_, rfl, F.out⟩
  · rintro a' wc ⟨r, T, va, u4, u5, u6, u7, u8, u9, u10, u11, u12, u13, u14, u15, u16, u17, u18, u19, u20, u21, u22, u23, u24, u25, u26, u27, u28, u29, u30, u31, rfl, hS, hO, hsz, hT⟩
    clear hmk hSl hO1 cC
    go_wp2_with fail
    go_loopg [0, 3, 12] (r.size + 1) (fun g s0 s3 _ wr => ∃ i : Nat, s0 = .string r ∧ s3 = va ∧ wr = wc.iter r i ∧ g = r.size + 1 - i ∧ i ≤ r.size ∧ Aside (NoCut r i))
    case atStart => exact ⟨0, rfl, rfl, rfl, rfl, Nat.zero_le _, (fun j h => by omega : NoCut r 0)⟩
    case round =>
      obtain ⟨i, rfl, rfl, rfl, hg, hi, hA⟩ := hrel
      replace hA := hA.out
      by_cases hlt : i < r.size
      · have hnx : ∀ ty, (Instr.next (.pointer (some ⟨wc.heap.size, 0, none⟩)) true ty).run Tryz.prog (wc.iter r i) = _ := fun ty => run_next_any wc r i ty hlt
        obtain ⟨d1, d2, d3⟩ := dec_cut hlt
        generalize Utf8.decode r i = dd at *
        obtain ⟨rune, wid⟩ := dd
        simp only at d1 d2 d3 hnx
        rcases d3 with ⟨d3, d4⟩ | ⟨d3, d4⟩
        · have h47 : ((rune : Int) == 47) = true := by simp; omega
          have hlv := levels_cut hA hlt d4
          have hsz2 : (r.extract (i + 1) r.size).size = r.size - (i + 1) := by simp [ByteArray.size_extract]
          have hT2 : (T ++ [r.extract 0 i]) ++ levels (r.extract (i + 1) r.size) = levels s := by rw [← hT.out, hlv]; simp
          obtain ⟨a1, c1, hva⟩ := hS.sl
          subst hva
          have hOb : Own [] w (((wc.iter r (i + wid)).drew).alloc (.cells #[.string (r.extract 0 i)] 9)) := ((hO.alloc (.stringIter r (i + wid))).drew).alloc _
          have hSb : Sl 9 lEnc 1 w.heap.size (((wc.iter r (i + wid)).drew).alloc (.cells #[.string (r.extract 0 i)] 9)) (.slice a1 T.length c1) T := hS.nil' ((((Own.refl [] wc).alloc (.stringIter r (i + wid))).drew).alloc _)
          have hRb := Reads.new (enc := lEnc) (T := 9) ((wc.iter r (i + wid)).drew) (r.extract 0 i) 1
          have hTl : (T ++ [r.extract 0 i]).length + (r.extract (i + 1) r.size).size ≤ s.size := by rw [hsz2]; simp; omega
          have hB1 : (T.length + [r.extract 0 i].length) * 16 ≤ 140737488355328 := by simp only [List.length_singleton]; omega
          have hB2 : T.length + [r.extract 0 i].length ≤ maxLen := by unfold maxLen; simp only [List.length_singleton]; omega
          have hw2 : (0 : Int) ≤ (i : Int) + 1 := by omega
          have hw3 : (i : Int) + 1 ≤ r.size := by omega
          have hw4 : ((i : Int) + 1).toNat = i + 1 := by omega
          have hw1 : IntKind.i64.wrap ((i : Int) + 1) = (i : Int) + 1 := IntWalk.i64_in _ (by omega)
          replace hB1 := Lib.hid hB1
          replace hB2 := Lib.hid hB2
          replace hTl := Lib.hid hTl
          replace hsz2 := Lib.hid hsz2
          replace hT2 := Lib.hid hT2
          replace hOb := Lib.hid hOb
          replace hg := Lib.hid hg
          clear hlv d3 d4 hA hO hS hT
          go_wp2_with fail
          go_region_law ((go_loud (refine step_append_new rfl (.tmp 18) (.tmp 22) (by rfl) lElem hOb.out (by rfl) hSb (by rfl) hRb hB1.out hB2.out ?_); intro va2 w5 hS5 hO5 _ _; obtain ⟨a2, c2, hva2⟩ := hS5.sl; subst hva2; rw [List.length_append, List.length_singleton] at hS5; have F := Lib.hid (And.intro hS5 (And.intro hO5 (And.intro hTl.out hT2))); clear hS5 hO5))
          all_goals
            go_wp2_with fail
            go_step3
            refine ⟨rfl, ⟨r.extract (i + 1) r.size, T ++ [r.extract 0 i], .slice a2 (T.length + 1) c2, _, _, _, _, _, _, _, _, _, _, _, _, _, _, _, _, _, _, _, _, _, _, _, _, _, _, _, _, rfl, F.out.1, F.out.2.1, F.out.2.2.1, F.out.2.2.2⟩, ?_⟩
            show (r.extract (i + 1) r.size).size < r.size
            rw [hsz2.out]; omega
        · have h47 : ((rune : Int) == 47) = false := by simp; omega
          have hA2 := Lib.hid (hA.step d4)
          replace hg := Lib.hid hg
          clear d3 d4 hA
          go_wp2_with fail
          go_roundg (r.size + 1 - (i + wid))
          case measure => have := hg.out; omega
          case rel => exact ⟨i + wid, rfl, rfl, rfl, rfl, d2, hA2.out⟩
      · obtain rfl : i = r.size := by omega
        have hnx : ∀ ty, (Instr.next (.pointer (some ⟨wc.heap.size, 0, none⟩)) true ty).run Tryz.prog (wc.iter r r.size) = _ := fun ty => run_next_end wc r r.size ty hlt
        have hlv := levels_one hA
        have hT2 : T ++ [r] = levels s := by rw [← hT.out, hlv]
        obtain ⟨a1, c1, hva⟩ := hS.sl
        subst hva
        have hOb : Own [] w ((wc.iter r r.size).alloc (.cells #[.string r] 9)) := (hO.alloc (.stringIter r r.size)).alloc _
        have hSb : Sl 9 lEnc 1 w.heap.size ((wc.iter r r.size).alloc (.cells #[.string r] 9)) (.slice a1 T.length c1) T := hS.nil' (((Own.refl [] wc).alloc (.stringIter r r.size)).alloc _)
        have hRb := Reads.new (enc := lEnc) (T := 9) (wc.iter r r.size) r 1
        have hTb : T.length ≤ 1048576 := by omega
        replace hT2 := Lib.hid hT2
        replace hOb := Lib.hid hOb
        clear hlv hg hA hO hS hT
        go_wp2_with (at_builtin; refine wpList_append_new rfl (.tmp 28) (.tmp 30) rfl lElem hOb.out rfl hSb rfl hRb (by simp only [List.length_singleton]; omega) (by unfold maxLen; simp only [List.length_singleton]; omega) ?_; intro va2 w5 hS5 hO5 _ _; rw [hT2.out] at hS5; have F := Lib.hid (And.intro hS5 hO5); clear hS5 hO5)
        simp only [Exit.jump]
        go_ret
        exact ⟨_, rfl, F.out⟩
end Go.Proofs.YtecociaolohfmaaGreatDoor
