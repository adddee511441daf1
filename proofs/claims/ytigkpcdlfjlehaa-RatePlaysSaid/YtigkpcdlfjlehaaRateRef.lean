/- The document's rate (crierref35): New, find, May, Ask. -/
import Derived.Test.YtigkpcdlfjlehaaRise
import Derived.Test.YtigkpcdlfjlehaaNew
import Derived.Test.YtigkpcdlfjlehaaRateTop
import Derived.Deep.LoopGhost
import Derived.Deep.QuietTactic
import Derived.BigQuiet
namespace Go.Proofs.Ytigkpcdlfjlehaa
open Go.RowKit

/-! ### plain -/
abbrev mKey : ByteArray × Int → ByteArray := fun p => p.1
def dMay (r : RTab) (gap : Int) (n : ByteArray) (now : Int) : Bool :=
  timedB now && (if rHas mKey r n then decide (gap ≤ now - (r.getD (rPos mKey r n) (n, 0)).2) else decide (r.length < 8))
def dAsk (r : RTab) (gap : Int) (n : ByteArray) (now : Int) : RTab :=
  if dMay r gap n now then (if rHas mKey r n then r.set (rPos mKey r n) (n, now) else rIns mKey r (n, now)) else r

/-! ### in memory -/
def mEnc (x : ByteArray × Int) : List Value := [.string x.1, .int .i64 x.2]
theorem mEnc_len (x : ByteArray × Int) : (mEnc x).length = 2 := rfl
theorem markInfo : (Try.prog.info? 46).map (fun i => (i.zero, i.size, i.bytes)) = some (some (.agg #[.string ⟨#[]⟩, .int .i64 0]), 2, 24) := by kernel_rfl
theorem markElem : Elem Try.prog 42 46 mEnc 2 24 where
  ut := Try.underlying42
  info := by obtain ⟨i, h1, h2, h3, h4⟩ := info_parts markInfo; exact ⟨i, _, h1, h2, h3, h4, rfl⟩
  pos := by omega
  len := mEnc_len
  one x u hu := by simp [mEnc] at hu; rcases hu with rfl | rfl <;> rfl

structure RefR (w : World) (xb : Nat) (gap : Int) (v : Value) (r : RTab) : Prop where
  row : w.heap[xb]? = some (.cells #[.int .i64 gap, v] 44 (0, 0))
  own : Sl 46 mEnc 2 0 w v r
  ne : v.ownBlock ≠ some xb
theorem RefR.own' {S : List Nat} {w w' : World} {xb : Nat} {gap : Int} {v : Value} {r : RTab} (h : RefR w xb gap v r) (ho : Own S w w') (hx : xb ∉ S) (hS : ∀ b, v.ownBlock = some b → b ∉ S) : RefR w' xb gap v r :=
  ⟨ho.heap h.row hx, h.own.own ho hS, h.ne⟩

theorem rnew_yes (gap : Int) (w : World) (h0 : 0 ≤ gap) (h1 : gap ≤ 1073741824) : Calls Try.prog 13 #[.int .i64 gap] w fun e w' =>
    e = .returned (.tuple #[.pointer (some ⟨w.heap.size, 0, none⟩), .int .i64 0]) ∧ RefR w' w.heap.size gap (.slice none 0 0) [] ∧ Own [] w w' := by
  go_enter Try.func13, Try.ntmps13
  go_wp2_with fail
  go_ret2
  exact ⟨rfl, ⟨heap_alloc_new _ _, Sl.nil _ _ _, by simp [Value.ownBlock]⟩, (Own.refl _ _).alloc _⟩
theorem rnew_no (gap : Int) (w : World) (h : gap < 0 ∨ 1073741824 < gap) : Calls Try.prog 13 #[.int .i64 gap] w fun e w' =>
    e = .returned (.tuple #[.pointer none, .int .i64 1]) ∧ w = w' := by
  rcases h with h | h
  · go_enter Try.func13, Try.ntmps13
    go_wp2_with fail
    go_ret2
    exact ⟨rfl, rfl⟩
  · have h0 : ¬ gap < 0 := by omega
    go_enter Try.func13, Try.ntmps13
    go_wp2_with fail
    go_ret2
    exact ⟨rfl, rfl⟩
theorem pnew_no (gap : Int) (w : World) (h : gap < 0 ∨ 1073741824 < gap) : Calls Try.prog 7 #[.int .i64 gap] w fun e w' =>
    e = .returned (.tuple #[.pointer none, .int .i64 1]) ∧ w = w' := by
  have ht : timedB gap = false := by
    unfold timedB
    rcases h with h | h
    · simp [show ¬ 0 ≤ gap by omega]
    · simp [show ¬ gap ≤ 1073741824 by omega]
  have T := timed_any gap w
  rw [ht] at T
  replace T := Lib.hid T
  clear ht h
  go_enter Try.func7, Try.ntmps7
  go_wp2_with fail
  refine T.out.mono ?_
  rintro e w' ⟨rfl, rfl⟩
  go_wp2_with fail
  go_ret2
  exact ⟨rfl, rfl⟩

set_option maxHeartbeats 1000000 in
theorem rfind_any (xb : Nat) (gap : Int) (v : Value) (r : RTab) (n : ByteArray) (w : World) (h : RefR w xb gap v r) (hl : r.length ≤ 8) :
    Calls Try.prog 23 #[.pointer (some ⟨xb, 0, none⟩), .string n] w fun e w' =>
      e = .returned (.tuple #[.int .i64 (rPos mKey r n : Nat), .bool (rHas mKey r n)]) ∧ Own [] w w' := by
  have c1 : w.cell? ⟨xb, 1, none⟩ = some v := cell_of_row w xb 1 _ _ _ h.row
  have hrd := h.own.reads mEnc_len
  obtain ⟨a, cap, rfl⟩ := h.own.sl
  have hle := rPos_le (key := mKey) r n
  have hlb := fun k (h : k < rPos mKey r n) => rPos_lt h
  have hat := fun p (h : r[rPos mKey r n]? = some p) => rPos_at h
  replace hlb := Lib.hid hlb
  replace hat := Lib.hid hat
  replace hrd := Lib.hid hrd
  generalize hH : rHas mKey r n = has
  unfold rHas at hH
  generalize hK : rPos mKey r n = K at *
  generalize hN : r.length = N at *
  replace hK := Lib.hid hK
  replace hN := Lib.hid hN
  replace hH := Lib.hid hH
  clear h
  go_enter Try.func23, Try.ntmps23
  go_wp2_with fail
  go_loopg [6] (K + 1) (fun gk i wr => ∃ k : Nat, k ≤ K ∧ gk = K + 1 - k ∧ i = .int .i64 k ∧ wr = w)
  case atStart => exact ⟨0, by omega, rfl, rfl, rfl⟩
  case round =>
    obtain ⟨k, hk, rfl, rfl, rfl⟩ := hrel
    by_cases hkK : k < K
    · obtain ⟨p, hp, hs⟩ := hlb.out k hkK
      have hkN : k < N := by omega
      obtain ⟨b, o, rfl, hc⟩ := hrd.out.at_ mEnc_len (by have := hN.out; omega)
      have e0 : wr.cell? ⟨b, o + k * 2, none⟩ = some (.string p.1) := hc k p 0 _ hp rfl
      have hs' : Op.bytesLess p.1.toList n.toList = true := hs
      clear hp hs hc
      go_wp2_with fail
      go_roundg (K + 1 - (k + 1))
      case measure => omega
      case rel => exact ⟨k + 1, by omega, rfl, by go_num, rfl⟩
    · obtain rfl : k = K := by omega
      by_cases hKN : k < N
      · obtain ⟨p, hp⟩ : ∃ p, r[k]? = some p := ⟨_, List.getElem?_eq_getElem (by have := hN.out; omega)⟩
        obtain ⟨b, o, rfl, hc⟩ := hrd.out.at_ mEnc_len (by have := hN.out; omega)
        have hs := hat.out p hp
        have e0 : wr.cell? ⟨b, o + k * 2, none⟩ = some (.string p.1) := hc k p 0 _ hp rfl
        have hs' : Op.bytesLess p.1.toList n.toList = false := hs
        have hH' := hH.out
        rw [hp] at hH'
        simp only at hH'
        have hkd : decide ((k : Int) < N) = true := by simp; omega
        have hz : (0 : Int) ≤ k := by omega
        clear hp hs hc
        go_wp2_with fail
        go_quiet (fail)
        go_wp2_with fail
        go_ret2
        exact ⟨rfl, (Own.refl _ _).drewN _⟩
      · have hnone : r[k]? = none := List.getElem?_eq_none (by have := hN.out; omega)
        have hH' := hH.out
        rw [hnone] at hH'
        simp only at hH'
        subst hH'
        have hkd : decide ((k : Int) < N) = false := by simp; omega
        clear hnone
        go_wp2_with fail
        go_quiet (fail)
        go_wp2_with fail
        go_ret2
        exact ⟨rfl, (Own.refl _ _).drewN _⟩

set_option maxHeartbeats 1000000 in
theorem rmay_any (xb : Nat) (gap : Int) (v : Value) (r : RTab) (n : ByteArray) (now : Int) (w : World) (h : RefR w xb gap v r) (hl : r.length ≤ 8) (hg : 0 ≤ gap ∧ gap ≤ 1073741824) (ht : ∀ p ∈ r, 0 ≤ p.2 ∧ p.2 ≤ 1073741824) :
    Calls Try.prog 14 #[.pointer (some ⟨xb, 0, none⟩), .string n, .int .i64 now] w fun e w' => e = .returned (.bool (dMay r gap n now)) ∧ Own [] w w' := by
  have F := rfind_any xb gap v r n w h hl
  unfold dMay timedB
  by_cases h0 : 0 ≤ now
  · by_cases h1 : now ≤ 1073741824
    · simp only [h0, h1, decide_true, Bool.and_true, Bool.true_and]
      have hK := fun w' (ho : Own [] w w') => h.own' ho (by simp) (by simp)
      have hK0 := fun w' (ho : Own [] w w') => (cell_of_row w' xb 0 _ _ _ (hK w' ho).row : w'.cell? ⟨xb, 0, none⟩ = some (.int .i64 gap))
      have hK1 := fun w' (ho : Own [] w w') => (cell_of_row w' xb 1 _ _ _ (hK w' ho).row : w'.cell? ⟨xb, 1, none⟩ = some v)
      have hKr := fun w' (ho : Own [] w w') => (hK w' ho).own.reads mEnc_len
      obtain ⟨a, cap, rfl⟩ := h.own.sl
      cases hb : rHas mKey r n with
      | false =>
        rw [hb] at F
        simp only [Bool.false_eq_true, if_false]
        replace F := Lib.hid F
        replace hK1 := Lib.hid hK1
        clear hK hK0 hKr hb h ht
        have hn0 : ¬ now < 0 := by omega
        go_enter Try.func14, Try.ntmps14
        go_wp2_with fail
        refine F.out.mono ?_
        rintro e w2 ⟨rfl, hO2⟩
        have c1 := hK1.out w2 hO2
        go_wp2_with fail
        go_ret
        exact ⟨by congr 3; simp [decide_eq_decide]; omega, hO2⟩
      | true =>
        rw [hb] at F
        simp only [if_true]
        obtain ⟨p, hp, _⟩ := rHas_some hb
        have hgd : r.getD (rPos mKey r n) (n, 0) = p := by simp [List.getD, hp]
        rw [hgd]
        have hpb := ht p (List.mem_of_getElem? hp)
        have hp0 := hpb.1
        have hp1 := hpb.2
        have hg0 := hg.1
        have hg1 := hg.2
        have hKl : rPos mKey r n < r.length := (List.getElem?_eq_some_iff.1 hp).1
        generalize rPos mKey r n = K at *
        replace F := Lib.hid F
        have hK2 : ∀ w', Own [] w w' → ∃ b o, a = some ⟨b, o, none⟩ ∧ w'.cell? ⟨b, o + (K * 2 + 1), none⟩ = some (.int .i64 p.2) := fun w' ho => by
          obtain ⟨b, o, he, hc⟩ := (hKr w' ho).at_ mEnc_len (by omega)
          exact ⟨b, o, he, hc K p 1 _ hp rfl⟩
        replace hK1 := Lib.hid hK1
        replace hK0 := Lib.hid hK0
        replace hK2 := Lib.hid hK2
        clear hK hKr hb h ht hp hgd hpb hg
        have hn0 : ¬ now < 0 := by omega
        have z0 : (0 : Int) ≤ K := by omega
        have z1 : (K : Int) < r.length := by omega
        go_enter Try.func14, Try.ntmps14
        go_wp2_with fail
        refine F.out.mono ?_
        rintro e w2 ⟨rfl, hO2⟩
        have c1 := hK1.out w2 hO2
        have c0 := hK0.out w2 hO2
        obtain ⟨b, o, rfl, c2⟩ := hK2.out w2 hO2
        rw [← Nat.add_assoc] at c2
        go_wp2_with fail
        go_quiet (fail)
        go_wp2_with fail
        go_ret
        exact ⟨rfl, hO2.drewN _⟩
    · simp only [h0, h1, decide_true, decide_false, Bool.and_false, Bool.false_and]
      have hn0 : ¬ now < 0 := by omega
      clear F h ht
      go_enter Try.func14, Try.ntmps14
      go_wp2_with fail
      go_ret
      exact ⟨rfl, Own.refl _ _⟩
  · simp only [h0, decide_false, Bool.false_and]
    have hn0 : now < 0 := by omega
    clear F h ht
    go_enter Try.func14, Try.ntmps14
    go_wp2_with fail
    go_ret
    exact ⟨rfl, Own.refl _ _⟩

def RAskPost (w : World) (xb : Nat) (gap : Int) (v : Value) (r : RTab) (n : ByteArray) (now : Int) (e : Ending) (w' : World) : Prop :=
  e = .returned (.bool (dMay r gap n now)) ∧ ∃ v', RefR w' xb gap v' (dAsk r gap n now) ∧ Own (xb :: v.ownBlock.toList) w w' ∧ (∀ g, v'.ownBlock = some g → v.ownBlock = some g ∨ w.heap.size ≤ g)
/-- What the three appends leave. -/
theorem rask_end {xb : Nat} {gap : Int} {w w5 : World} {v v3 : Value} {r : RTab} (h : RefR w xb gap v r) (hO : Own [] w w5) {r' : RTab} (hS : Sl 46 mEnc 2 w.heap.size w5 v3 r') :
    ∃ v', RefR (w5.setCell ⟨xb, 1, none⟩ v3) xb gap v' r' ∧ Own (xb :: v.ownBlock.toList) w (w5.setCell ⟨xb, 1, none⟩ v3) ∧ (∀ g, v'.ownBlock = some g → v.ownBlock = some g ∨ w.heap.size ≤ g) := by
  have hxl := lt_of_heap h.row
  have hO2 : Own [xb] w5 (w5.setCell ⟨xb, 1, none⟩ v3) := (Own.refl _ _).setCell (by simp) _
  have hne : ∀ g, v3.ownBlock = some g → g ≠ xb := fun g hg => by have := (hS.block hg).1; omega
  exact ⟨v3, ⟨heap_setCell_same _ _ _ _ _ _ (hO.heap h.row (by simp)), (hS.own hO2 (fun g hg => by simpa using hne g hg)).mono (Nat.zero_le _), fun hx => hne xb hx rfl⟩, (hO.nil.trans hO2).mono (by simp), fun g hg => .inr (hS.block hg).1⟩

set_option maxRecDepth 100000 in
set_option maxHeartbeats 4000000 in
theorem rask_any (xb : Nat) (gap : Int) (v : Value) (r : RTab) (n : ByteArray) (now : Int) (w : World) (h : RefR w xb gap v r) (hl : r.length ≤ 8) (hg : 0 ≤ gap ∧ gap ≤ 1073741824) (ht : ∀ p ∈ r, 0 ≤ p.2 ∧ p.2 ≤ 1073741824) :
    Calls Try.prog 15 #[.pointer (some ⟨xb, 0, none⟩), .string n, .int .i64 now] w (RAskPost w xb gap v r n now) := by
  have M := rmay_any xb gap v r n now w h hl hg ht
  have F := fun w2 (ho : Own [] w w2) => rfind_any xb gap v r n w2 (h.own' ho (by simp) (by simp)) hl
  unfold RAskPost dAsk
  cases hm : dMay r gap n now with
  | false =>
    rw [hm] at M
    replace M := Lib.hid M
    simp only [Bool.false_eq_true, if_false]
    have hend : ∀ w2, Own [] w w2 → ∃ v', RefR w2 xb gap v' r ∧ Own (xb :: v.ownBlock.toList) w w2 ∧ (∀ g, v'.ownBlock = some g → v.ownBlock = some g ∨ w.heap.size ≤ g) := fun w2 ho => ⟨v, h.own' ho (by simp) (by simp), ho.nil, fun g hg => .inl hg⟩
    replace hend := Lib.hid hend
    clear F h ht
    go_enter Try.func15, Try.ntmps15
    go_wp2_with fail
    refine M.out.mono ?_
    rintro e w2 ⟨rfl, hO2⟩
    go_wp2_with fail
    go_ret
    exact ⟨rfl, hend.out w2 hO2⟩
  | true =>
    rw [hm] at M
    replace M := Lib.hid M
    simp only [if_true]
    have hK := fun w' (ho : Own [] w w') => h.own' ho (by simp) (by simp)
    have hK1 := fun w' (ho : Own [] w w') => (cell_of_row w' xb 1 _ _ _ (hK w' ho).row : w'.cell? ⟨xb, 1, none⟩ = some v)
    replace hK1 := Lib.hid hK1
    cases hb : rHas mKey r n with
    | true =>
      simp only [hb] at F
      simp only [if_true]
      obtain ⟨p, hp, hpn⟩ := rHas_some hb
      have hKl : rPos mKey r n < r.length := (List.getElem?_eq_some_iff.1 hp).1
      generalize rPos mKey r n = K at *
      obtain ⟨g, cap, rfl, _, hR⟩ : ∃ g cap, v = .slice (some ⟨g, 0, none⟩) r.length cap ∧ 0 ≤ g ∧ Row 46 mEnc 2 w g cap r := by
        rcases h.own.form with ⟨_, rfl⟩ | h1
        · simp at hKl
        · exact h1
      have hne : g ≠ xb := fun e => h.ne (by rw [e]; rfl)
      have hfin : ∀ w2, Own [] w w2 → ∃ v', RefR (w2.setCell ⟨g, K * 2 + 1, none⟩ (.int .i64 now)) xb gap v' (r.set K (n, now)) ∧ Own (xb :: (Value.slice (some ⟨g, 0, none⟩) r.length cap).ownBlock.toList) w (w2.setCell ⟨g, K * 2 + 1, none⟩ (.int .i64 now)) ∧ (∀ g', v'.ownBlock = some g' → (Value.slice (some ⟨g, 0, none⟩) r.length cap).ownBlock = some g' ∨ w.heap.size ≤ g') := by
        intro w2 ho
        have hR2 := hR.own ho (by simp)
        have hO2 : Own [g] w2 (w2.setCell ⟨g, K * 2 + 1, none⟩ (.int .i64 now)) := (Own.refl _ _).setCell (by simp) _
        refine ⟨.slice (some ⟨g, 0, none⟩) r.length cap, ⟨?_, ?_, h.ne⟩, (ho.nil.trans hO2).mono (by simp [Value.ownBlock]), fun g' hg' => .inl hg'⟩
        · exact hO2.heap (hK w2 ho).row (by simpa using Ne.symm hne)
        · have hl2 : r.length = (r.set K (n, now)).length := by simp
          rw [hl2]
          refine Sl.of_row ?_ mEnc_len (Nat.zero_le _)
          refine row_upd hR2 mEnc_len 1 _ hp ?_
          intro j hj
          match j, hj with
          | 0, _ => simp [mEnc, ← hpn, mKey]
          | 1, _ => simp [mEnc]
      replace hfin := Lib.hid hfin
      have hKf : ∀ w2, Own [] w w2 → w2.frozen? ⟨g, K * 2 + 1, none⟩ = false ∧ ∃ u, w2.cell? ⟨g, K * 2 + 1, none⟩ = some (.int .i64 u) := fun w2 ho => ⟨(hR.own ho (by simp)).frozen _, p.2, (hR.own ho (by simp)).cell mEnc_len hp rfl⟩
      replace hKf := Lib.hid hKf
      replace F := Lib.hid F
      clear hK hb h ht hp hR hpn
      have z0 : (0 : Int) ≤ K := by omega
      have z1 : (K : Int) < r.length := by omega
      go_enter Try.func15, Try.ntmps15
      go_wp2_with fail
      refine M.out.mono ?_
      rintro e w2 ⟨rfl, hO2⟩
      go_wp2_with fail
      refine (F.out _ hO2).mono ?_
      rintro e w3 ⟨rfl, hO3⟩
      have hO4 := hO2.trans hO3
      have c1 := hK1.out w3 hO4
      obtain ⟨f2, u, c2⟩ := hKf.out w3 hO4
      replace hO4 := Lib.hid hO4
      go_wp2_with fail
      go_ret
      exact ⟨rfl, hfin.out w3 hO4.out⟩
    | false =>
      simp only [hb] at F
      simp only [Bool.false_eq_true, if_false]
      unfold rIns
      have hle := rPos_le (key := mKey) r n
      show Calls _ _ _ _ (fun e w' => _ ∧ ∃ v', RefR w' xb gap v' (r.take (rPos mKey r n) ++ [(n, now)] ++ r.drop (rPos mKey r n)) ∧ _)
      generalize rPos mKey r n = K at *
      obtain ⟨v1, hs1, hr1, hb1⟩ := h.own.take markElem hle
      obtain ⟨v2, hs2, hr2, hb2⟩ := h.own.drop markElem hle
      have lt : (r.take K).length ≤ 8 := by simp; omega
      have ld : (r.drop K).length ≤ 8 := by simp; omega
      generalize hrr : r.take K ++ [(n, now)] ++ r.drop K = rr
      have hfin : ∀ w5 v3, Own [] w w5 → Sl 46 mEnc 2 w.heap.size w5 v3 rr → _ := fun w5 v3 ho hs => rask_end h ho hs
      replace hrr := Lib.hid hrr
      have hfz : ∀ w2, Own [] w w2 → w2.frozen? ⟨xb, 1, none⟩ = false := fun w2 ho => frozen_of_row w2 xb 1 _ _ (hK w2 ho).row
      replace hfin := Lib.hid hfin
      replace hfz := Lib.hid hfz
      replace hs1 := Lib.hid hs1
      replace hs2 := Lib.hid hs2
      replace F := Lib.hid F
      clear hK hb h ht hm hb1 hb2
      go_enter Try.func15, Try.ntmps15
      go_wp2_with fail
      refine M.out.mono ?_
      rintro e w2 ⟨rfl, hO2⟩
      go_wp2_with fail
      refine (F.out _ hO2).mono ?_
      rintro e w3 ⟨rfl, hO3⟩
      have hO4 := hO2.trans hO3
      have c1 := hK1.out w3 hO4
      have hOe := hO4.alloc (.cells #[] 46)
      have c1' := hK1.out _ hOe
      have hsl := (Sl.empty (enc := mEnc) (k := 2) 46 w3).mono (base' := w.heap.size) hO4.size
      have hr1' := hr1.nil' hOe
      replace hOe := Lib.hid hOe
      clear hr1 hO2 hO3 hO4
      go_wp2_with (first
        | (refine wpList_slice_of (o := ⟨some 36, _, _, _, _, _⟩) rfl _ _ _ _ _ rfl rfl rfl rfl rfl hs1.out ?_)
        | (at_builtin; refine wpList_append_new rfl (.tmp 30) (.tmp 36) rfl markElem hOe.out rfl hsl rfl hr1' (by simp only [List.length_nil]; omega) (by unfold maxLen; simp only [List.length_nil]; omega) ?_; intro va wa hSa hOa _ _; have ca := hK1.out wa hOa; have hOb := hOa.alloc (.cells #[.string n, .int .i64 now] 46); have hSb := hSa.nil' ((Own.refl [] wa).alloc (.cells #[.string n, .int .i64 now] 46)); have hRb := Reads.new (enc := mEnc) (T := 46) wa (n, now) 1; replace hOb := Lib.hid hOb; clear hSa hOa hr1' hOe)
        | (at_builtin; refine wpList_append_new rfl (.tmp 38) (.tmp 42) rfl markElem hOb.out rfl hSb rfl hRb (by simp only [List.length_append, List.length_nil, List.length_singleton]; omega) (by unfold maxLen; simp only [List.length_append, List.length_nil, List.length_singleton]; omega) ?_; intro vb wb hSb' hOc _ _; have cb := hK1.out wb hOc; have hr2' := hr2.nil' hOc; replace hOc := Lib.hid hOc; clear hSb hRb hOb)
        | (refine wpList_slice_of (o := ⟨some 50, _, _, _, _, _⟩) rfl _ _ _ _ _ rfl rfl rfl rfl rfl hs2.out ?_)
        | (at_builtin; refine wpList_append_new rfl (.tmp 44) (.tmp 50) rfl markElem hOc.out rfl hSb' rfl hr2' (by simp only [List.length_append, List.length_nil, List.length_singleton]; omega) (by unfold maxLen; simp only [List.length_append, List.length_nil, List.length_singleton]; omega) ?_; intro vc wc hSc hOd _ _; rw [List.nil_append, hrr.out] at hSc; obtain ⟨ac, capc, rfl⟩ := hSc.sl; have cc := hK1.out wc hOd; have cf := hfz.out wc hOd; replace hOd := Lib.hid hOd; replace hSc := Lib.hid hSc))
      go_ret
      exact ⟨rfl, hfin.out _ _ hOd.out hSc.out⟩
end Go.Proofs.Ytigkpcdlfjlehaa
