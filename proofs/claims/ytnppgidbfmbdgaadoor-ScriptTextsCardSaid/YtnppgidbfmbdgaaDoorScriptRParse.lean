/- Scripts (chapter 40): a line's event: the document's. -/
import Derived.Test.YtnppgidbfmbdgaaDoorScriptParse
import Derived.Deep.QuietTactic
import Derived.BigQuiet
set_option linter.unusedSimpArgs false
set_option linter.unusedVariables false
namespace Go.Proofs.YtnppgidbfmbdgaaDoor
open Go.RowKit

theorem scParts_at {a : ByteArray} {r : List ByteArray} {k : Int} (hk : 0 ≤ k ∧ k ≤ 4) (ha : scWord k = a) : scParts (a :: r) = scFill k r := by
  unfold scParts; rw [← ha]; simp only [scKind_word k hk]
theorem scParts_none {a : ByteArray} {r : List ByteArray} (h : ∀ j : Nat, j < 5 → scWord j ≠ a) : scParts (a :: r) = none := scParts_miss fun j hj e => absurd e (h j hj)
/-- The loop's state. -/
def RPI (w wr : World) (B1 : Nat) (v : Value) (a : ByteArray) (r : List ByteArray) (k : Nat) : Prop :=
  Sl 9 wEnc 1 B1 wr v (a :: r) ∧ Own [] w wr ∧ wr.heap[w.heap.size]? = some (.cells #[.int .i64 0, .int .i64 0, .int .i64 0, .string ⟨#[]⟩] 23 (0, 0)) ∧ ∀ j : Nat, j < k → scWord j ≠ a
def wantOf (k : Int) : Int := if k = 1 then 3 else 2
theorem fill_len {k : Int} {r : List ByteArray} (h : (r.length : Int) + 1 ≠ wantOf k) : scFill k r = none := by
  unfold scFill wantOf at *
  split
  · rename_i h1
    rw [if_pos h1] at h
    match r with
    | [] => rfl
    | [_] => rfl
    | [_, _] => exact absurd rfl h
    | _ :: _ :: _ :: _ => rfl
  · rename_i h1
    rw [if_neg h1] at h
    match r with
    | [] => rfl
    | [_] => exact absurd rfl h
    | _ :: _ :: _ => rfl
set_option maxRecDepth 100000 in
set_option maxHeartbeats 4000000 in
theorem rparse_any (s : ByteArray) (w : World) :
    Calls Tryd.prog 9 #[.string s] w fun e w' => ParseP (scParse s) e ∧ Own [] w w' := by
  have hO1 : Own [] w (w.alloc (.cells #[.int .i64 0, .int .i64 0, .int .i64 0, .string ⟨#[]⟩] 23)) := (Own.refl _ _).alloc _
  have hO1' := Lib.hid hO1
  have hbk := Lib.hid (heap_alloc_new w (.cells #[.int .i64 0, .int .i64 0, .int .i64 0, .string ⟨#[]⟩] 23))
  by_cases hs : 32768 < s.size
  · have e1 : scParse s = (⟨0, 0, 0, ⟨#[]⟩⟩, 3) := by unfold scParse; rw [if_pos hs]; rfl
    have b1 : (32768 : Int) < s.size := by omega
    clear hO1
    go_enter Tryd.func9, Tryd.ntmps9
    go_wp2_with fail
    obtain ⟨g0, g1, g2, g3⟩ := blk4 hbk.out
    refine bodyPost_ret (v := .tuple #[.agg #[.int .i64 0, .int .i64 0, .int .i64 0, .string ⟨#[]⟩], .int .i64 3]) (by simp [results, Tryd.results9, go_sem, g0, g1, g2, g3]; try rfl) rfl ⟨parseP_mk _ _ _ _ _ e1, hO1'.out⟩
  · have b1 : ¬ (32768 : Int) < s.size := by omega
    have cS : Calls Tryd.prog 24 #[.string s, .int .u8 32] _ (SplP _ (splB 32 s)) := rsplit_any s 32 (w.alloc (.cells #[.int .i64 0, .int .i64 0, .int .i64 0, .string ⟨#[]⟩] 23)) (by omega)
    replace cS := Lib.hid cS
    have hns := spl_ne 32 s.data.toList
    have hpl : ∀ x ∈ splB 32 s, x.size ≤ 32768 := fun x hx => by
      have := splB_mem_size hx
      omega
    have hll := splB_len 32 s
    have eP : scParse s = match scParts (splB 32 s) with | some e => (e, 0) | none => (Ev.zero, 4) := by unfold scParse; rw [if_neg hs]; rfl
    obtain ⟨L, hL⟩ : ∃ L, splB 32 s = L := ⟨_, rfl⟩
    rw [hL] at cS hpl hll eP
    cases L with
    | nil => exact absurd (List.map_eq_nil_iff.1 hL) hns
    | cons a r =>
      clear hns hL hO1
      have hl0 : (a :: r).length = r.length + 1 := rfl
      have hl3 : r.length ≤ 1000000 := by simp at hll; omega
      have hpr : ∀ x ∈ r, x.size ≤ 32768 := fun x hx => hpl x (by simp [hx])
      replace eP := Lib.hid eP
      replace hpr := Lib.hid hpr
      clear hpl hll hs
      go_enter Tryd.func9, Tryd.ntmps9
      go_wp2_with (go_at_call 24; ((with_reducible refine cS.out.mono ?_); rintro e w2 ⟨v, rfl, hS, hO2⟩; obtain ⟨va, vc, rfl⟩ := hS.sl; have hb2 := hO2.heap hbk.out (by simp); replace hO2 := Lib.hid (hO1'.out.trans hO2); replace hb2 := Lib.hid hb2; replace hS := Lib.hid hS; rw [hl0]))
      generalize (w.alloc (.cells #[.int .i64 0, .int .i64 0, .int .i64 0, .string ⟨#[]⟩] 23)).heap.size = B1 at *
      go_loopg [5, 6, 7, 8, 9] 5 (fun g s5 _ _ _ _ wr => ∃ k : Nat, s5 = .int .i64 k ∧ k + g = 5 ∧ Aside (RPI w wr B1 (.slice va (a :: r).length vc) a r k))
      case atStart => exact ⟨0, rfl, rfl, hS.out, hO2.out, hb2.out, fun j h => by omega⟩
      case round =>
        obtain ⟨k, rfl, hk, hA⟩ := hrel
        obtain ⟨hS, hO, hb, hF⟩ := hA.out
        have hR := hS.reads wEnc_len
        obtain ⟨b0, o0, hva, hC⟩ := hR.at_ wEnc_len (by simp)
        subst hva
        have c0 : wr.cell? ⟨b0, o0, none⟩ = some (.string a) := by simpa using hC 0 a 0 (.string a) rfl rfl
        obtain ⟨f0, f1, f2, f3⟩ := blk4 hb
        obtain ⟨z0, z1, z2, z3, z4⟩ := fz4 hb
        have hw1 : IntKind.i64.wrap ((k : Int) + 1) = ((k + 1 : Nat) : Int) := by rw [IntKind.wrap_i64]; omega
        by_cases hlt : k < 5
        · have k1 : (k : Int) ≤ 4 := by omega
          have cF := Lib.hid (fun W => word_any (k : Int) W (by omega))
          by_cases hw : scWord k = a
          · subst hw
            replace hO := Lib.hid hO
            replace hb := Lib.hid hb
            replace hk := Lib.hid hk
            have eQ : scParse s = match scFill k r with | some e => (e, 0) | none => (Ev.zero, 4) := by rw [eP.out, scParts_at (by omega) rfl]
            replace eQ := Lib.hid eQ
            clear hF hR hA eP f0 f1 f2 f3 z0 z1 z2 z3 z4
            by_cases hlen : (r.length : Int) + 1 = wantOf k
            · by_cases h1 : (k : Int) = 1
              · have q1 : (((k : Nat) : Int) == 1) = true := by simpa using h1
                have q3 : (((k : Nat) : Int) == 3) = false := by rw [h1]; rfl
                unfold wantOf at hlen
                rw [if_pos h1] at hlen
                obtain ⟨b, c, hrb⟩ : ∃ b c, r = [b, c] := by
                  match r, hlen with
                  | [b, c], _ => exact ⟨b, c, rfl⟩
                  | [], h => exact absurd h (by simp)
                  | [_], h => exact absurd h (by simp)
                  | _ :: _ :: _ :: _, h => simp at h; omega
                subst hrb
                have c1 : wr.cell? ⟨b0, o0 + 1, none⟩ = some (.string b) := by simpa using hC 1 b 0 (.string b) rfl rfl
                have c2 : wr.cell? ⟨b0, o0 + 2, none⟩ = some (.string c) := by simpa using hC 2 c 0 (.string c) rfl rfl
                have cN := fun W => rnumber_any b W
                have cR := fun W => rraw_any c (by have := hpr.out c (by simp); omega) W
                have eF : scFill k [b, c] = match scNum b with | some n => (match scRaw c with | some d => some ⟨k, n, 0, ⟨d.toArray⟩⟩ | none => none) | none => none := by
                  unfold scFill; rw [if_pos h1]
                  cases h4 : scNum b <;> cases h5 : scRaw c <;> simp [h4, h5, h1]
                clear hC hlen hl3 h1
                cases hsn : scNum b with
                | none =>
                  rw [hsn] at cN eF
                  replace cN : ∀ W, Calls Tryd.prog 25 #[.string b] W fun e w' => e = .returned (.int .i64 (-1)) ∧ Own [] W w' := cN
                  replace cN := Lib.hid cN
                  have e1 : scParse s = (⟨0, 0, 0, ⟨#[]⟩⟩, 4) := by rw [eQ.out, eF]; rfl
                  replace e1 := Lib.hid e1
                  clear eF eQ hsn cR
                  go_wp2_with fail
                  go_quiet ((go_at_call 20; exact Calls.quiet_of_same ((cF.out _).mono (fun _ _ h => ⟨h.1, h.2.symm⟩))))
                  have hX := Lib.hid ((Own.refl [] wr).drewN nq)
                  generalize wr.drewN nq = wq at *
                  have hOq := Lib.hid (hO.out.trans hX.out)
                  have hbq := Lib.hid (hX.out.heap hb.out (by simp))
                  have c1q := (hX.out.cell (block_lt_of_cell c1) (by simp)).trans c1
                  go_wp2_with fail
                  with_reducible refine (cN.out _).mono ?_
                  rintro e w3 ⟨rfl, hN3⟩
                  have hb3 := hN3.heap hbq.out (by simp)
                  obtain ⟨f0, f1, f2, f3⟩ := blk4 hb3
                  obtain ⟨z0, z1, z2, z3, z4⟩ := fz4 hb3
                  replace hb3 := Lib.hid hb3
                  replace hN3 := Lib.hid (hOq.out.trans hN3)
                  go_wp2_with fail
                  have hW := set4 hb3.out (.int .i64 0) (.int .i64 0) (.int .i64 0) (.string ⟨#[]⟩)
                  obtain ⟨g0, g1, g2, g3⟩ := blk4 hW
                  refine bodyPost_ret (v := .tuple #[.agg #[.int .i64 0, .int .i64 0, .int .i64 0, .string ⟨#[]⟩], .int .i64 4]) (by simp [results, Tryd.results9, go_sem, g0, g1, g2, g3]; try rfl) rfl ⟨parseP_mk _ _ _ _ _ e1.out, own4 hN3.out (Nat.le_refl _) _ _ _ _⟩
                | some n =>
                  rw [hsn] at cN eF
                  replace cN : ∀ W, Calls Tryd.prog 25 #[.string b] W fun e w' => e = .returned (.int .i64 (n : Int)) ∧ Own [] W w' := cN
                  replace cN := Lib.hid cN
                  have hn0 : ¬ (n : Int) < 0 := by omega
                  cases hsr : scRaw c with
                  | none =>
                    rw [hsr] at cR eF
                    replace cR := Lib.hid cR
                    have e1 : scParse s = (⟨0, 0, 0, ⟨#[]⟩⟩, 4) := by rw [eQ.out, eF]; rfl
                    replace e1 := Lib.hid e1
                    clear eF eQ hsn hsr
                    go_wp2_with fail
                    go_quiet ((go_at_call 20; exact Calls.quiet_of_same ((cF.out _).mono (fun _ _ h => ⟨h.1, h.2.symm⟩))))
                    have hX := Lib.hid ((Own.refl [] wr).drewN nq)
                    generalize wr.drewN nq = wq at *
                    have hOq := Lib.hid (hO.out.trans hX.out)
                    have hbq := Lib.hid (hX.out.heap hb.out (by simp))
                    have c1q := (hX.out.cell (block_lt_of_cell c1) (by simp)).trans c1
                    go_wp2_with fail
                    with_reducible refine (cN.out _).mono ?_
                    rintro e w3 ⟨rfl, hN3⟩
                    have c13 := (hN3.cell (block_lt_of_cell c1q) (by simp)).trans c1q
                    replace hN3 := Lib.hid hN3
                    go_wp2_with fail
                    with_reducible refine (cN.out _).mono ?_
                    rintro e w4 ⟨rfl, hN4⟩
                    have c14 := (hN4.cell (block_lt_of_cell c13) (by simp)).trans c13
                    have hN5 := Lib.hid (hN3.out.trans hN4)
                    have hb4 := Lib.hid (hN5.out.heap hbq.out (by simp))
                    have hO4 := Lib.hid (hOq.out.trans hN5.out)
                    clear hN3 hN4
                    have c24 := ((hX.out.trans hN5.out).cell (block_lt_of_cell c2) (by simp)).trans c2
                    have z5 := block_lt_of_cell c24
                    have hA5 := (Own.refl [] w4).alloc (.cells #[.int .i64 k, .int .i64 n, .int .i64 0, .string ⟨#[]⟩] 23)
                    have hbt := Lib.hid (heap_alloc_new w4 (.cells #[.int .i64 k, .int .i64 n, .int .i64 0, .string ⟨#[]⟩] 23))
                    have hbu := Lib.hid (hA5.heap hb4.out (by simp))
                    have hO5 := Lib.hid (hO4.out.trans hA5)
                    have z6 := lt_of_heap hb4.out
                    replace hA5 := Lib.hid hA5
                    go_wp2_with fail
                    with_reducible refine (cR.out _).mono ?_
                    rintro e w6 ⟨hP, hO6⟩
                    obtain rfl := rawP_none hP
                    have hb5 := hO6.heap hbt.out (by simp)
                    have hb6 := hO6.heap hbu.out (by simp)
                    obtain ⟨y0, y1, y2, y3⟩ := blk4 hb5
                    obtain ⟨x0, x1, x2, x3, x4⟩ := fz4 hb5
                    obtain ⟨t0, t1, t2, t3⟩ := blk4 hb6
                    obtain ⟨s0, s1, s2, s3, s4⟩ := fz4 hb6
                    replace hb5 := Lib.hid hb5
                    replace hb6 := Lib.hid hb6
                    replace hO6 := Lib.hid (hO5.out.trans hO6)
                    clear hP
                    go_wp2_with fail
                    have hW := set4 hb6.out (.int .i64 0) (.int .i64 0) (.int .i64 0) (.string ⟨#[]⟩)
                    obtain ⟨g0, g1, g2, g3⟩ := blk4 hW
                    refine bodyPost_ret (v := .tuple #[.agg #[.int .i64 0, .int .i64 0, .int .i64 0, .string ⟨#[]⟩], .int .i64 4]) (by simp [results, Tryd.results9, go_sem, g0, g1, g2, g3]; try rfl) rfl ⟨parseP_mk _ _ _ _ _ e1.out, own4 hO6.out (Nat.le_refl _) _ _ _ _⟩
                  | some d =>
                    rw [hsr] at cR eF
                    replace cR := Lib.hid cR
                    have e1 : scParse s = (⟨k, n, 0, ⟨d.toArray⟩⟩, 0) := by rw [eQ.out, eF]
                    replace e1 := Lib.hid e1
                    clear eF eQ hsn hsr
                    go_wp2_with fail
                    go_quiet ((go_at_call 20; exact Calls.quiet_of_same ((cF.out _).mono (fun _ _ h => ⟨h.1, h.2.symm⟩))))
                    have hX := Lib.hid ((Own.refl [] wr).drewN nq)
                    generalize wr.drewN nq = wq at *
                    have hOq := Lib.hid (hO.out.trans hX.out)
                    have hbq := Lib.hid (hX.out.heap hb.out (by simp))
                    have c1q := (hX.out.cell (block_lt_of_cell c1) (by simp)).trans c1
                    go_wp2_with fail
                    with_reducible refine (cN.out _).mono ?_
                    rintro e w3 ⟨rfl, hN3⟩
                    have c13 := (hN3.cell (block_lt_of_cell c1q) (by simp)).trans c1q
                    replace hN3 := Lib.hid hN3
                    go_wp2_with fail
                    with_reducible refine (cN.out _).mono ?_
                    rintro e w4 ⟨rfl, hN4⟩
                    have c14 := (hN4.cell (block_lt_of_cell c13) (by simp)).trans c13
                    have hN5 := Lib.hid (hN3.out.trans hN4)
                    have hb4 := Lib.hid (hN5.out.heap hbq.out (by simp))
                    have hO4 := Lib.hid (hOq.out.trans hN5.out)
                    clear hN3 hN4
                    have c24 := ((hX.out.trans hN5.out).cell (block_lt_of_cell c2) (by simp)).trans c2
                    have z5 := block_lt_of_cell c24
                    have hA5 := (Own.refl [] w4).alloc (.cells #[.int .i64 k, .int .i64 n, .int .i64 0, .string ⟨#[]⟩] 23)
                    have hbt := Lib.hid (heap_alloc_new w4 (.cells #[.int .i64 k, .int .i64 n, .int .i64 0, .string ⟨#[]⟩] 23))
                    have hbu := Lib.hid (hA5.heap hb4.out (by simp))
                    have hO5 := Lib.hid (hO4.out.trans hA5)
                    have z6 := lt_of_heap hb4.out
                    replace hA5 := Lib.hid hA5
                    go_wp2_with fail
                    with_reducible refine (cR.out _).mono ?_
                    rintro e w6 ⟨hP, hO6⟩
                    obtain rfl := rawP_some hP
                    have hb5 := hO6.heap hbt.out (by simp)
                    have hb6 := hO6.heap hbu.out (by simp)
                    obtain ⟨y0, y1, y2, y3⟩ := blk4 hb5
                    obtain ⟨x0, x1, x2, x3, x4⟩ := fz4 hb5
                    obtain ⟨t0, t1, t2, t3⟩ := blk4 hb6
                    obtain ⟨s0, s1, s2, s3, s4⟩ := fz4 hb6
                    replace hb5 := Lib.hid hb5
                    replace hb6 := Lib.hid hb6
                    replace hO6 := Lib.hid (hO5.out.trans hO6)
                    clear hP
                    go_wp2_with fail
                    have hb7 := ((Own.refl [w4.heap.size] w6).setCell (p := ⟨w4.heap.size, 3, none⟩) (.inl (by simp)) (.string ⟨d.toArray⟩)).heap hb6.out (by simp; omega)
                    have hO7 := hO6.out.setCell (p := ⟨w4.heap.size, 3, none⟩) (.inr (Nat.le_of_lt z6)) (.string ⟨d.toArray⟩)
                    have hW := set4 hb7 (.int .i64 k) (.int .i64 n) (.int .i64 0) (.string ⟨d.toArray⟩)
                    obtain ⟨g0, g1, g2, g3⟩ := blk4 hW
                    refine bodyPost_ret (v := .tuple #[.agg #[.int .i64 k, .int .i64 n, .int .i64 0, .string ⟨d.toArray⟩], .int .i64 0]) (by simp [results, Tryd.results9, go_sem, g0, g1, g2, g3]; try rfl) rfl ⟨parseP_mk _ _ _ _ _ e1.out, own4 hO7 (by first | exact Nat.le_refl _ | omega) _ _ _ _⟩
              · have q1 : (((k : Nat) : Int) == 1) = false := by simpa using h1
                unfold wantOf at hlen
                rw [if_neg h1] at hlen
                obtain ⟨b, hrb⟩ : ∃ b, r = [b] := by
                  match r, hlen with
                  | [b], _ => exact ⟨b, rfl⟩
                  | [], h => exact absurd h (by simp)
                  | _ :: _ :: _, h => simp at h; omega
                subst hrb
                have c1 : wr.cell? ⟨b0, o0 + 1, none⟩ = some (.string b) := by simpa using hC 1 b 0 (.string b) rfl rfl
                have cN := fun W => rnumber_any b W
                have eF : scFill k [b] = match scNum b with | some n => some (if (k : Int) = 3 then ⟨k, 0, n, ⟨#[]⟩⟩ else ⟨k, n, 0, ⟨#[]⟩⟩) | none => none := by unfold scFill; rw [if_neg h1]; rfl
                clear hC hlen hl3
                cases hsn : scNum b with
                | none =>
                  rw [hsn] at cN eF
                  replace cN : ∀ W, Calls Tryd.prog 25 #[.string b] W fun e w' => e = .returned (.int .i64 (-1)) ∧ Own [] W w' := cN
                  replace cN := Lib.hid cN
                  have e1 : scParse s = (⟨0, 0, 0, ⟨#[]⟩⟩, 4) := by rw [eQ.out, eF]; rfl
                  replace e1 := Lib.hid e1
                  clear eF eQ hsn
                  go_wp2_with fail
                  go_quiet ((go_at_call 20; exact Calls.quiet_of_same ((cF.out _).mono (fun _ _ h => ⟨h.1, h.2.symm⟩))))
                  have hX := Lib.hid ((Own.refl [] wr).drewN nq)
                  generalize wr.drewN nq = wq at *
                  have hOq := Lib.hid (hO.out.trans hX.out)
                  have hbq := Lib.hid (hX.out.heap hb.out (by simp))
                  have c1q := (hX.out.cell (block_lt_of_cell c1) (by simp)).trans c1
                  go_wp2_with fail
                  with_reducible refine (cN.out _).mono ?_
                  rintro e w3 ⟨rfl, hN3⟩
                  have hb3 := hN3.heap hbq.out (by simp)
                  obtain ⟨f0, f1, f2, f3⟩ := blk4 hb3
                  obtain ⟨z0, z1, z2, z3, z4⟩ := fz4 hb3
                  replace hb3 := Lib.hid hb3
                  replace hN3 := Lib.hid (hOq.out.trans hN3)
                  go_wp2_with fail
                  have hW := set4 hb3.out (.int .i64 0) (.int .i64 0) (.int .i64 0) (.string ⟨#[]⟩)
                  obtain ⟨g0, g1, g2, g3⟩ := blk4 hW
                  refine bodyPost_ret (v := .tuple #[.agg #[.int .i64 0, .int .i64 0, .int .i64 0, .string ⟨#[]⟩], .int .i64 4]) (by simp [results, Tryd.results9, go_sem, g0, g1, g2, g3]; try rfl) rfl ⟨parseP_mk _ _ _ _ _ e1.out, own4 hN3.out (Nat.le_refl _) _ _ _ _⟩
                | some n =>
                  rw [hsn] at cN eF
                  replace cN : ∀ W, Calls Tryd.prog 25 #[.string b] W fun e w' => e = .returned (.int .i64 (n : Int)) ∧ Own [] W w' := cN
                  replace cN := Lib.hid cN
                  have hn0 : ¬ (n : Int) < 0 := by omega
                  by_cases h3 : (k : Int) = 3
                  · have q3 : (((k : Nat) : Int) == 3) = true := by simpa using h3
                    have e1 : scParse s = (⟨k, 0, n, ⟨#[]⟩⟩, 0) := by rw [eQ.out, eF]; simp only [if_pos h3]
                    replace e1 := Lib.hid e1
                    clear eF eQ hsn h1 h3
                    go_wp2_with fail
                    go_quiet ((go_at_call 20; exact Calls.quiet_of_same ((cF.out _).mono (fun _ _ h => ⟨h.1, h.2.symm⟩))))
                    have hX := Lib.hid ((Own.refl [] wr).drewN nq)
                    generalize wr.drewN nq = wq at *
                    have hOq := Lib.hid (hO.out.trans hX.out)
                    have hbq := Lib.hid (hX.out.heap hb.out (by simp))
                    have c1q := (hX.out.cell (block_lt_of_cell c1) (by simp)).trans c1
                    go_wp2_with fail
                    with_reducible refine (cN.out _).mono ?_
                    rintro e w3 ⟨rfl, hN3⟩
                    have c13 := (hN3.cell (block_lt_of_cell c1q) (by simp)).trans c1q
                    replace hN3 := Lib.hid hN3
                    go_wp2_with fail
                    with_reducible refine (cN.out _).mono ?_
                    rintro e w4 ⟨rfl, hN4⟩
                    have c14 := (hN4.cell (block_lt_of_cell c13) (by simp)).trans c13
                    have hN5 := Lib.hid (hN3.out.trans hN4)
                    have hb4 := Lib.hid (hN5.out.heap hbq.out (by simp))
                    have hO4 := Lib.hid (hOq.out.trans hN5.out)
                    clear hN3 hN4
                    have z5 := block_lt_of_cell c14
                    have hA5 := (Own.refl [] w4).alloc (.cells #[.int .i64 k, .int .i64 n, .int .i64 0, .string ⟨#[]⟩] 23)
                    have hbt := Lib.hid (heap_alloc_new w4 (.cells #[.int .i64 k, .int .i64 n, .int .i64 0, .string ⟨#[]⟩] 23))
                    have hbu := Lib.hid (hA5.heap hb4.out (by simp))
                    have hO5 := Lib.hid (hO4.out.trans hA5)
                    have z6 := lt_of_heap hb4.out
                    replace hA5 := Lib.hid hA5
                    go_wp2_with fail
                    with_reducible refine (cN.out _).mono ?_
                    rintro e w6 ⟨rfl, hO6⟩
                    have hb5 := hO6.heap hbt.out (by simp)
                    have hb6 := hO6.heap hbu.out (by simp)
                    obtain ⟨y0, y1, y2, y3⟩ := blk4 hb5
                    obtain ⟨x0, x1, x2, x3, x4⟩ := fz4 hb5
                    obtain ⟨t0, t1, t2, t3⟩ := blk4 hb6
                    obtain ⟨s0, s1, s2, s3, s4⟩ := fz4 hb6
                    replace hb5 := Lib.hid hb5
                    replace hb6 := Lib.hid hb6
                    replace hO6 := Lib.hid (hO5.out.trans hO6)
                    go_wp2_with fail
                    have hb7 := ((((Own.refl [w4.heap.size] w6).setCell (p := ⟨w4.heap.size, 0, none⟩) (.inl (by simp)) (.int .i64 k)).setCell (p := ⟨w4.heap.size, 1, none⟩) (.inl (by simp)) (.int .i64 0)).setCell (p := ⟨w4.heap.size, 2, none⟩) (.inl (by simp)) (.int .i64 n)).setCell (p := ⟨w4.heap.size, 3, none⟩) (.inl (by simp)) (.string ⟨#[]⟩) |>.heap hb6.out (by simp; omega)
                    have hO7 := own4 hO6.out (Nat.le_of_lt z6) (.int .i64 k) (.int .i64 0) (.int .i64 n) (.string ⟨#[]⟩)
                    have hW := set4 hb7 (.int .i64 k) (.int .i64 0) (.int .i64 n) (.string ⟨#[]⟩)
                    obtain ⟨g0, g1, g2, g3⟩ := blk4 hW
                    refine bodyPost_ret (v := .tuple #[.agg #[.int .i64 k, .int .i64 0, .int .i64 n, .string ⟨#[]⟩], .int .i64 0]) (by simp [results, Tryd.results9, go_sem, g0, g1, g2, g3]; try rfl) rfl ⟨parseP_mk _ _ _ _ _ e1.out, own4 hO7 (by first | exact Nat.le_refl _ | omega) _ _ _ _⟩
                  · have q3 : (((k : Nat) : Int) == 3) = false := by simpa using h3
                    have e1 : scParse s = (⟨k, n, 0, ⟨#[]⟩⟩, 0) := by rw [eQ.out, eF]; simp only [if_neg h3]
                    replace e1 := Lib.hid e1
                    clear eF eQ hsn h1 h3
                    go_wp2_with fail
                    go_quiet ((go_at_call 20; exact Calls.quiet_of_same ((cF.out _).mono (fun _ _ h => ⟨h.1, h.2.symm⟩))))
                    have hX := Lib.hid ((Own.refl [] wr).drewN nq)
                    generalize wr.drewN nq = wq at *
                    have hOq := Lib.hid (hO.out.trans hX.out)
                    have hbq := Lib.hid (hX.out.heap hb.out (by simp))
                    have c1q := (hX.out.cell (block_lt_of_cell c1) (by simp)).trans c1
                    go_wp2_with fail
                    with_reducible refine (cN.out _).mono ?_
                    rintro e w3 ⟨rfl, hN3⟩
                    have c13 := (hN3.cell (block_lt_of_cell c1q) (by simp)).trans c1q
                    replace hN3 := Lib.hid hN3
                    go_wp2_with fail
                    with_reducible refine (cN.out _).mono ?_
                    rintro e w4 ⟨rfl, hN4⟩
                    have c14 := (hN4.cell (block_lt_of_cell c13) (by simp)).trans c13
                    have hN5 := Lib.hid (hN3.out.trans hN4)
                    have hb4 := Lib.hid (hN5.out.heap hbq.out (by simp))
                    have hO4 := Lib.hid (hOq.out.trans hN5.out)
                    clear hN3 hN4
                    obtain ⟨f0, f1, f2, f3⟩ := blk4 hb4.out
                    obtain ⟨z0, z1, z2, z3, z4⟩ := fz4 hb4.out
                    go_wp2_with fail
                    have hW := set4 hb4.out (.int .i64 k) (.int .i64 n) (.int .i64 0) (.string ⟨#[]⟩)
                    obtain ⟨g0, g1, g2, g3⟩ := blk4 (((Own.refl [] _).alloc (.cells #[.int .i64 k, .int .i64 n, .int .i64 0, .string ⟨#[]⟩] 23)).heap hW (by simp))
                    refine bodyPost_ret (v := .tuple #[.agg #[.int .i64 k, .int .i64 n, .int .i64 0, .string ⟨#[]⟩], .int .i64 0]) (by simp [results, Tryd.results9, go_sem, g0, g1, g2, g3]; try rfl) rfl ⟨parseP_mk _ _ _ _ _ e1.out, (own4 hO4.out (by first | exact Nat.le_refl _ | omega) _ _ _ _).alloc _⟩
            · have e1 : scParse s = (⟨0, 0, 0, ⟨#[]⟩⟩, 4) := by rw [eQ.out, fill_len hlen]; rfl
              replace e1 := Lib.hid e1
              have qn : ((((k : Nat) : Int) == 1) = true ∧ (((r.length : Int) + 1) != 3) = true) ∨ ((((k : Nat) : Int) == 1) = false ∧ (((r.length : Int) + 1) != 2) = true) := by
                unfold wantOf at hlen
                by_cases h1 : (k : Int) = 1
                · rw [if_pos h1] at hlen; exact .inl ⟨by simpa using h1, by simpa using hlen⟩
                · rw [if_neg h1] at hlen; exact .inr ⟨by simpa using h1, by simpa using hlen⟩
              clear eQ hlen hC
              rcases qn with ⟨q1, q2⟩ | ⟨q1, q2⟩
              all_goals
                go_wp2_with fail
                go_quiet ((go_at_call 20; exact Calls.quiet_of_same ((cF.out _).mono (fun _ _ h => ⟨h.1, h.2.symm⟩))))
                have hX := Lib.hid ((Own.refl [] wr).drewN nq)
                generalize wr.drewN nq = wq at *
                have hOq := Lib.hid (hO.out.trans hX.out)
                have hbq := Lib.hid (hX.out.heap hb.out (by simp))
                obtain ⟨f0, f1, f2, f3⟩ := blk4 hbq.out
                obtain ⟨z0, z1, z2, z3, z4⟩ := fz4 hbq.out
                go_wp2_with fail
                have hW := set4 hbq.out (.int .i64 0) (.int .i64 0) (.int .i64 0) (.string ⟨#[]⟩)
                obtain ⟨g0, g1, g2, g3⟩ := blk4 hW
                refine bodyPost_ret (v := .tuple #[.agg #[.int .i64 0, .int .i64 0, .int .i64 0, .string ⟨#[]⟩], .int .i64 4]) (by simp [results, Tryd.results9, go_sem, g0, g1, g2, g3]; try rfl) rfl ⟨parseP_mk _ _ _ _ _ e1.out, own4 hOq.out (Nat.le_refl _) _ _ _ _⟩
          · have hw2 : (scWord (k : Int)).toList ≠ a.toList := fun h => hw (by rw [Lib.toList_data, Lib.toList_data] at h; exact ByteArray.ext (Array.ext' h))
            have q2 : (a.toList == (scWord (k : Int)).toList) = false := by simpa using hw2.symm
            have q3 : (a.toList != (scWord (k : Int)).toList) = true := by simpa using hw2.symm
            have hF2 : ∀ j : Nat, j < k + 1 → scWord j ≠ a := fun j hj he => by
              by_cases hjk : j < k
              · exact hF j hjk he
              · obtain rfl : j = k := by omega
                exact absurd he hw
            replace hF2 := Lib.hid hF2
            replace hS := Lib.hid hS
            replace hO := Lib.hid hO
            replace hb := Lib.hid hb
            replace hk := Lib.hid hk
            clear hF hR hC hw hw2 hA
            go_wp2_with fail
            go_quiet ((go_at_call 20; exact Calls.quiet_of_same ((cF.out _).mono (fun _ _ h => ⟨h.1, h.2.symm⟩))))
            go_wp2_with fail
            go_roundg (5 - (k + 1))
            case measure => have := hk.out; omega
            case rel =>
              have hD := (Own.refl [] wr).drewN nq
              exact ⟨k + 1, by go_num, by omega, hS.out.nil' hD, hO.out.trans hD, hD.heap hb.out (by simp), hF2.out⟩
        · have k1 : ¬ (k : Int) ≤ 4 := by omega
          have e1 : scParse s = (⟨0, 0, 0, ⟨#[]⟩⟩, 4) := by
            rw [eP.out, scParts_none (fun j hj => hF j (by omega))]; rfl
          replace e1 := Lib.hid e1
          replace hS := Lib.hid hS
          replace hO := Lib.hid hO
          replace hb := Lib.hid hb
          replace hk := Lib.hid hk
          clear hF hR hC hA
          go_wp2_with fail
          have hW := set4 hb.out (.int .i64 0) (.int .i64 0) (.int .i64 0) (.string ⟨#[]⟩)
          obtain ⟨g0, g1, g2, g3⟩ := blk4 hW
          refine bodyPost_ret (v := .tuple #[.agg #[.int .i64 0, .int .i64 0, .int .i64 0, .string ⟨#[]⟩], .int .i64 4]) (by simp [results, Tryd.results9, go_sem, g0, g1, g2, g3]; try rfl) rfl ⟨parseP_mk _ _ _ _ _ e1.out, own4 hO.out (Nat.le_refl _) _ _ _ _⟩
end Go.Proofs.YtnppgidbfmbdgaaDoor
