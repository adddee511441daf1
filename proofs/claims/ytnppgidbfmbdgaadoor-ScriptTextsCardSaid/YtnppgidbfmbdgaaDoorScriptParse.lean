/- Scripts (chapter 40): a line's event: the program's. -/
import Derived.Test.YtnppgidbfmbdgaaDoorScriptFill
import Derived.Deep.LoopGhost
set_option linter.unusedSimpArgs false
set_option linter.unusedVariables false
namespace Go.Proofs.YtnppgidbfmbdgaaDoor
open Go.RowKit

/-- A word's kind. -/
def scKind (w : ByteArray) : Option Int := if w = scWord 0 then some 0 else if w = scWord 1 then some 1 else if w = scWord 2 then some 2 else if w = scWord 3 then some 3 else if w = scWord 4 then some 4 else none
theorem word_ne {x y : ByteArray} (h : x.data.toList ≠ y.data.toList) : x ≠ y := fun e => h (by rw [e])
theorem scKind_word (k : Int) (h : 0 ≤ k ∧ k ≤ 4) : scKind (scWord k) = some k := by
  have hk : k = 0 ∨ k = 1 ∨ k = 2 ∨ k = 3 ∨ k = 4 := by omega
  rcases hk with rfl | rfl | rfl | rfl | rfl
  · unfold scKind; rw [if_pos rfl]
  · unfold scKind; rw [if_neg (word_ne (by decide)), if_pos rfl]
  · unfold scKind; rw [if_neg (word_ne (by decide)), if_neg (word_ne (by decide)), if_pos rfl]
  · unfold scKind; rw [if_neg (word_ne (by decide)), if_neg (word_ne (by decide)), if_neg (word_ne (by decide)), if_pos rfl]
  · unfold scKind; rw [if_neg (word_ne (by decide)), if_neg (word_ne (by decide)), if_neg (word_ne (by decide)), if_neg (word_ne (by decide)), if_pos rfl]
theorem scKind_some {w : ByteArray} {k : Int} (h : scKind w = some k) : (0 ≤ k ∧ k ≤ 4) ∧ scWord k = w := by
  unfold scKind at h
  split at h
  · rename_i e; cases h; exact ⟨by omega, e.symm⟩
  split at h
  · rename_i e; cases h; exact ⟨by omega, e.symm⟩
  split at h
  · rename_i e; cases h; exact ⟨by omega, e.symm⟩
  split at h
  · rename_i e; cases h; exact ⟨by omega, e.symm⟩
  split at h
  · rename_i e; cases h; exact ⟨by omega, e.symm⟩
  · cases h
/-- What a line's parts come to. -/
def scParts (l : List ByteArray) : Option Ev := match l with
  | [] => none
  | a :: r => match scKind a with
    | some k => scFill k r
    | none => none
/-- A line's event, and an error's number. -/
def scParse (s : ByteArray) : Ev × Int := if 32768 < s.size then (Ev.zero, 3) else match scParts (splB 32 s) with
  | some e => (e, 0)
  | none => (Ev.zero, 4)
theorem scParts_hit {a : ByteArray} {r : List ByteArray} {k : Int} {x : Ev} (hk : 0 ≤ k ∧ k ≤ 4) (ha : scWord k = a) (hf : scFill k r = some x) : scParts (a :: r) = some x := by
  unfold scParts; rw [← ha]; simp only [scKind_word k hk]; exact hf
theorem scParts_miss {a : ByteArray} {r : List ByteArray} (h : ∀ j : Nat, j < 5 → scWord j = a → scFill j r = none) : scParts (a :: r) = none := by
  cases hs : scKind a with
  | none => unfold scParts; simp only [hs]
  | some k =>
    obtain ⟨hk, hw⟩ := scKind_some hs
    obtain ⟨j, rfl⟩ := Int.eq_ofNat_of_zero_le hk.1
    unfold scParts; simp only [hs]; exact h j (by omega) hw
theorem scFill_nil (k : Int) : scFill k [] = none := by unfold scFill; split <;> rfl
theorem spl_mem_len {c : UInt8} : ∀ {l w : List UInt8}, w ∈ spl c l → w.length ≤ l.length
  | [], w, h => by simp [spl] at h; subst h; simp
  | x :: r, w, h => by
    unfold spl at h
    split at h
    · rcases List.mem_cons.1 h with rfl | h
      · simp
      · have := spl_mem_len h; simp; omega
    · split at h
      · rename_i he
        exact absurd he (spl_ne c r)
      · rename_i hd t he
        rcases List.mem_cons.1 h with rfl | h
        · have := spl_mem_len (c := c) (l := r) (w := hd) (by rw [he]; simp)
          simp; omega
        · have := spl_mem_len (c := c) (l := r) (w := w) (by rw [he]; simp [h])
          simp; omega
theorem splB_mem_size {c : UInt8} {s x : ByteArray} (h : x ∈ splB c s) : x.size ≤ s.size := by
  unfold splB at h
  obtain ⟨l, hl, rfl⟩ := List.mem_map.1 h
  have := spl_mem_len hl
  rw [Lib.size_eq, Lib.size_eq]
  exact this
theorem fillP_none {e : Ending} (h : FillP none e) : ∃ x1 x2 x3 x4, e = .returned (.tuple #[.agg #[.int .i64 x1, .int .i64 x2, .int .i64 x3, .string x4], .bool false]) := by
  obtain ⟨⟨x1, x2, x3, x4⟩, b, rfl, hb⟩ := h
  cases b with
  | false => exact ⟨x1, x2, x3, x4, rfl⟩
  | true => simp at hb
theorem fillP_some {x1 x2 x3 : Int} {x4 : ByteArray} {e : Ending} (h : FillP (some ⟨x1, x2, x3, x4⟩) e) : e = .returned (.tuple #[.agg #[.int .i64 x1, .int .i64 x2, .int .i64 x3, .string x4], .bool true]) := by
  obtain ⟨x, b, rfl, hb⟩ := h
  cases b with
  | false => simp at hb
  | true => simp at hb; subst hb; rfl
def ParseP (r : Ev × Int) (e : Ending) : Prop := e = .returned (.tuple #[r.1.val, .int .i64 r.2])
theorem parseP_mk {r : Ev × Int} (k c n : Int) (d : ByteArray) (z : Int) (h : r = (⟨k, c, n, d⟩, z)) : ParseP r (.returned (.tuple #[.agg #[.int .i64 k, .int .i64 c, .int .i64 n, .string d], .int .i64 z])) := by rw [h]; rfl
set_option maxRecDepth 100000 in
set_option maxHeartbeats 4000000 in
theorem parse_any (s : ByteArray) (w : World) (hm : MaxCell w) :
    Calls Tryd.prog 8 #[.string s] w fun e w' => ParseP (scParse s) e ∧ Own [] w w' := by
  have hO1 : Own [] w (w.alloc (.cells #[.int .i64 0, .int .i64 0, .int .i64 0, .string ⟨#[]⟩] 23)) := (Own.refl _ _).alloc _
  have hO1' := Lib.hid hO1
  have hbk := Lib.hid (heap_alloc_new w (.cells #[.int .i64 0, .int .i64 0, .int .i64 0, .string ⟨#[]⟩] 23))
  by_cases hs : 32768 < s.size
  · have e1 : scParse s = (⟨0, 0, 0, ⟨#[]⟩⟩, 3) := by unfold scParse; rw [if_pos hs]; rfl
    have b1 : (32768 : Int) < s.size := by omega
    clear hO1
    go_enter Tryd.func8, Tryd.ntmps8
    go_wp2_with fail
    obtain ⟨g0, g1, g2, g3⟩ := blk4 hbk.out
    refine bodyPost_ret (v := .tuple #[.agg #[.int .i64 0, .int .i64 0, .int .i64 0, .string ⟨#[]⟩], .int .i64 3]) (by simp [results, Tryd.results8, go_sem, g0, g1, g2, g3]; try rfl) rfl ⟨parseP_mk _ _ _ _ _ e1, hO1'.out⟩
  · have b1 : ¬ (32768 : Int) < s.size := by omega
    have cS := Lib.hid (psplit_any s 32 _ (by omega) (hm.own hO1))
    have hns := spl_ne 32 s.data.toList
    have hpl : ∀ x ∈ splB 32 s, x.size ≤ 32768 := fun x hx => by
      have := splB_mem_size hx
      omega
    have hll := splB_len 32 s
    have eP : scParse s = match scParts (splB 32 s) with | some e => (e, 0) | none => (Ev.zero, 4) := by unfold scParse; rw [if_neg hs]
    obtain ⟨L, hL⟩ : ∃ L, splB 32 s = L := ⟨_, rfl⟩
    rw [hL] at cS hpl hll eP
    cases L with
    | nil => exact absurd (List.map_eq_nil_iff.1 hL) hns
    | cons a r =>
      clear hns hL hO1
      have hl0 : (a :: r).length = r.length + 1 := rfl
      by_cases hr : r = []
      · subst hr
        have e1 : scParse s = (⟨0, 0, 0, ⟨#[]⟩⟩, 4) := by
          rw [eP, scParts_miss (fun j _ _ => scFill_nil j)]; rfl
        replace e1 := Lib.hid e1
        clear eP hpl hll hs
        go_enter Tryd.func8, Tryd.ntmps8
        go_wp2_with (go_at_call 22; ((with_reducible refine cS.out.mono ?_); rintro e w2 ⟨v, rfl, hS, hO2⟩; obtain ⟨va, vc, rfl⟩ := hS.sl; have hb2 := hO2.heap hbk.out (by simp); obtain ⟨f0, f1, f2, f3⟩ := blk4 hb2; obtain ⟨z0, z1, z2, z3, z4⟩ := fz4 hb2; replace hO2 := Lib.hid (hO1'.out.trans hO2); replace hb2 := Lib.hid hb2; clear hS))
        have hW := set4 hb2.out (.int .i64 0) (.int .i64 0) (.int .i64 0) (.string ⟨#[]⟩)
        obtain ⟨g0, g1, g2, g3⟩ := blk4 hW
        refine bodyPost_ret (v := .tuple #[.agg #[.int .i64 0, .int .i64 0, .int .i64 0, .string ⟨#[]⟩], .int .i64 4]) (by simp [results, Tryd.results8, go_sem, g0, g1, g2, g3]; try rfl) rfl ⟨parseP_mk _ _ _ _ _ e1.out, own4 hO2.out (Nat.le_refl _) _ _ _ _⟩
      · have hl2 : 0 < r.length := List.length_pos_iff.2 hr
        have hl3 : r.length ≤ 1000000 := by simp at hll; omega
        have q1 : ¬ ((r.length : Int) + 1) < 2 := by omega
        have hpr : ∀ x ∈ r, x.size ≤ 32768 := fun x hx => hpl x (by simp [hx])
        replace eP := Lib.hid eP
        replace hpr := Lib.hid hpr
        obtain ⟨r0, r1, hrr⟩ : ∃ r0 r1, r = r0 :: r1 := by cases r with | nil => exact absurd rfl hr | cons x y => exact ⟨x, y, rfl⟩
        replace hrr := Lib.hid hrr
        clear hpl hll hs hr
        go_enter Tryd.func8, Tryd.ntmps8
        go_wp2_with (go_at_call 22; ((with_reducible refine cS.out.mono ?_); rintro e w2 ⟨v, rfl, hS, hO2⟩; obtain ⟨va, vc, rfl⟩ := hS.sl; have hb2 := hO2.heap hbk.out (by simp); replace hO2 := Lib.hid (hO1'.out.trans hO2); replace hb2 := Lib.hid hb2; replace hS := Lib.hid hS; rw [hl0]))
        generalize (w.alloc (.cells #[.int .i64 0, .int .i64 0, .int .i64 0, .string ⟨#[]⟩] 23)).heap.size = B1 at *
        go_loopg [5, 6, 7, 8, 9, 10] 5 (fun g s5 _ _ _ _ _ wr => ∃ k : Nat, s5 = .int .i64 k ∧ k + g = 5 ∧ Aside (Sl 9 wEnc 1 B1 wr (.slice va (a :: r).length vc) (a :: r) ∧ Own [] w wr ∧ wr.heap[w.heap.size]? = some (.cells #[.int .i64 0, .int .i64 0, .int .i64 0, .string ⟨#[]⟩] 23 (0, 0)) ∧ ∀ j : Nat, j < k → scWord j = a → scFill j r = none))
        case atStart => exact ⟨0, rfl, rfl, hS.out, hO2.out, hb2.out, fun j h _ => by omega⟩
        case round =>
          obtain ⟨k, rfl, hk, hS, hO, hb, hF⟩ := hrel
          have hR := hS.reads wEnc_len
          obtain ⟨b0, o0, hva, hC⟩ := hR.at_ wEnc_len (by simp)
          subst hva
          have c0 : wr.cell? ⟨b0, o0, none⟩ = some (.string a) := by simpa using hC 0 a 0 (.string a) rfl rfl
          obtain ⟨f0, f1, f2, f3⟩ := blk4 hb
          obtain ⟨z0, z1, z2, z3, z4⟩ := fz4 hb
          have hw1 : IntKind.i64.wrap ((k : Int) + 1) = ((k + 1 : Nat) : Int) := by rw [IntKind.wrap_i64]; omega
          have cF := Lib.hid (fun W => form_any (k : Int) W)
          by_cases hlt : k < 5
          · have k1 : (k : Int) ≤ 4 := by omega
            by_cases hw : scWord k = a
            · subst hw
              obtain ⟨v1, hsl, hR1, _⟩ := hS.drop wElem (i := 1) (by simp)
              have hsl2 : ∀ W, (Instr.sliceAt 48 (.slice (some ⟨b0, o0, none⟩) (r.length + 1) vc) (some (.int .i64 1)) none none).run Tryd.prog W = .ok v1 W := hsl
              rw [show (scWord (k : Int) :: r).drop 1 = r from rfl, hrr.out] at hR1
              have cX := Lib.hid (fill_any k r0 r1 v1 wr (by omega) hR1 (fun x hx => by have := hpr.out x (by rw [hrr.out]; simp [hx]); omega) (by have := congrArg List.length hrr.out; simp at this; omega))
              rw [← hrr.out] at cX
              clear hsl
              replace hS := Lib.hid hS
              cases hf : scFill k r with
              | none =>
                rw [hf] at cX
                have hF2 : ∀ j : Nat, j < k + 1 → scWord j = scWord k → scFill j r = none := fun j hj he => by
                  by_cases hjk : j < k
                  · exact hF j hjk he
                  · obtain rfl : j = k := by omega
                    exact hf
                replace hF2 := Lib.hid hF2
                replace hO := Lib.hid hO
                replace hb := Lib.hid hb
                replace hk := Lib.hid hk
                clear hF hR hC hf
                go_wp2_with (first
                  | (go_at_call 18; ((with_reducible refine (cF.out _).mono ?_); rintro e w2 ⟨rfl, rfl⟩))
                  | (go_at_call 23; ((with_reducible refine cX.out.mono ?_); rintro e w3 ⟨hP, hO3⟩; obtain ⟨x1, x2, x3, x4, rfl⟩ := fillP_none hP; have hb3 := Lib.hid (hO3.heap hb.out (by simp)); have hS3 := Lib.hid (hS.out.nil' hO3); replace hO3 := Lib.hid (hO.out.trans hO3); clear hP)))
                go_roundg (5 - (k + 1))
                case measure => have := hk.out; omega
                case rel =>
                  have hA := (Own.refl [] w3).alloc (.cells #[.int .i64 x1, .int .i64 x2, .int .i64 x3, .string x4] 23)
                  exact ⟨k + 1, by go_num, by omega, hS3.out.nil' hA, hO3.out.trans hA, hA.heap hb3.out (by simp), hF2.out⟩
              | some x =>
                obtain ⟨x1, x2, x3, x4⟩ := x
                rw [hf] at cX
                have e1 : scParse s = (⟨x1, x2, x3, x4⟩, 0) := by
                  rw [eP.out, scParts_hit (by omega) rfl hf]
                replace e1 := Lib.hid e1
                replace hO := Lib.hid hO
                replace hb := Lib.hid hb
                replace hk := Lib.hid hk
                clear hF hR hC hf
                go_wp2_with (first
                  | (go_at_call 18; ((with_reducible refine (cF.out _).mono ?_); rintro e w2 ⟨rfl, rfl⟩))
                  | (go_at_call 23; ((with_reducible refine cX.out.mono ?_); rintro e w3 ⟨hP, hO3⟩; obtain rfl := fillP_some hP; have hb3 := hO3.heap hb.out (by simp); obtain ⟨p0, p1, p2, p3⟩ := blk4 hb3; obtain ⟨t0, t1, t2, t3, t4⟩ := fz4 hb3; replace hb3 := Lib.hid hb3; replace hO3 := Lib.hid (hO.out.trans hO3); clear hP f0 f1 f2 f3 z0 z1 z2 z3)))
                have hW := set4 hb3.out (.int .i64 x1) (.int .i64 x2) (.int .i64 x3) (.string x4)
                trace_state
                obtain ⟨g0, g1, g2, g3⟩ := blk4 (((Own.refl [] _).alloc (.cells #[.int .i64 x1, .int .i64 x2, .int .i64 x3, .string x4] 23)).heap hW (by simp))
                refine bodyPost_ret (v := .tuple #[.agg #[.int .i64 x1, .int .i64 x2, .int .i64 x3, .string x4], .int .i64 0]) (by simp [results, Tryd.results8, go_sem, g0, g1, g2, g3]; try rfl) rfl ⟨parseP_mk _ _ _ _ _ e1.out, (own4 hO3.out (Nat.le_refl _) _ _ _ _).alloc _⟩
            · have hw2 : (scWord (k : Int)).toList ≠ a.toList := fun h => hw (by rw [Lib.toList_data, Lib.toList_data] at h; exact ByteArray.ext (Array.ext' h))
              have q2 : ((scWord (k : Int)).toList == a.toList) = false := by simpa using hw2
              have q3 : ((scWord (k : Int)).toList != a.toList) = true := by simpa using hw2
              have hF2 : ∀ j : Nat, j < k + 1 → scWord j = a → scFill j r = none := fun j hj he => by
                by_cases hjk : j < k
                · exact hF j hjk he
                · obtain rfl : j = k := by omega
                  exact absurd he hw
              replace hF2 := Lib.hid hF2
              replace hS := Lib.hid hS
              replace hO := Lib.hid hO
              replace hb := Lib.hid hb
              replace hk := Lib.hid hk
              clear hF hR hC hw hw2
              go_wp2_with (go_at_call 18; ((with_reducible refine (cF.out _).mono ?_); rintro e w2 ⟨rfl, rfl⟩))
              go_roundg (5 - (k + 1))
              case measure => have := hk.out; omega
              case rel => exact ⟨k + 1, by go_num, by omega, hS.out, hO.out, hb.out, hF2.out⟩
          · have k1 : ¬ (k : Int) ≤ 4 := by omega
            have hk5 : k = 5 := by omega
            have e1 : scParse s = (⟨0, 0, 0, ⟨#[]⟩⟩, 4) := by
              rw [eP.out, scParts_miss (fun j hj he => hF j (by omega) he)]; rfl
            replace e1 := Lib.hid e1
            replace hS := Lib.hid hS
            replace hO := Lib.hid hO
            replace hb := Lib.hid hb
            replace hk := Lib.hid hk
            clear hF hR hC hk5
            go_wp2_with fail
            have hW := set4 hb.out (.int .i64 0) (.int .i64 0) (.int .i64 0) (.string ⟨#[]⟩)
            obtain ⟨g0, g1, g2, g3⟩ := blk4 hW
            refine bodyPost_ret (v := .tuple #[.agg #[.int .i64 0, .int .i64 0, .int .i64 0, .string ⟨#[]⟩], .int .i64 4]) (by simp [results, Tryd.results8, go_sem, g0, g1, g2, g3]; try rfl) rfl ⟨parseP_mk _ _ _ _ _ e1.out, own4 hO.out (Nat.le_refl _) _ _ _ _⟩
end Go.Proofs.YtnppgidbfmbdgaaDoor
