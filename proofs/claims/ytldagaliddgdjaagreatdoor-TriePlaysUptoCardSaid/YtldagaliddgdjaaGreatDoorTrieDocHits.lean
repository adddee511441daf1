/- The document's trie (crierref19) in memory: Hits. -/
import Derived.Test.YtldagaliddgdjaaGreatDoorTrieDocAdd
import Derived.Test.YtldagaliddgdjaaGreatDoorTrieHits
namespace Go.Proofs.YtldagaliddgdjaaGreatDoor
open Go.RowKit Go.Lib Go.Shelf Go.Sort

def wStep (nm : ByteArray) (k : Nat) (m : Int) (p : (Int × ByteArray) × Int) : Int := if p.1.1 = k ∧ mMatch p.1.2 nm = true then max m p.2 else m
def wBest (r : Ws) (nm : ByteArray) (k : Nat) : Int := r.foldl (wStep nm k) (-1)
theorem wBest_step {r : Ws} {nm : ByteArray} {k j : Nat} {x : (Int × ByteArray) × Int} (h : r[j]? = some x) : wBest (r.take (j + 1)) nm k = wStep nm k (wBest (r.take j) nm k) x := by
  unfold wBest
  rw [List.take_add_one, h]
  simp
def dHits (r : Ws) (nm : ByteArray) : Nat → List (Int × Int)
  | 0 => []
  | n + 1 => dHits r nm n ++ if 0 ≤ wBest r nm n then [((n : Int), wBest r nm n)] else []
theorem dHits_len (r : Ws) (nm : ByteArray) : ∀ n, (dHits r nm n).length ≤ n
  | 0 => by simp [dHits]
  | n + 1 => by
    have := dHits_len r nm n
    unfold dHits
    rw [List.length_append]
    split <;> simp <;> omega
set_option maxRecDepth 100000 in
set_option maxHeartbeats 4000000 in
theorem whits_any (xb : Nat) (v : Value) (r : Ws) (nm : ByteArray) (w : World) (h : WS w xb v r) (hl : r.length ≤ 1000) :
    Calls Tryz.prog 10 #[.pointer (some ⟨xb, 0, none⟩), .string nm] w fun e w' => ∃ v', e = .returned v' ∧ Sl 57 hEnc 2 w.heap.size w' v' (dHits r nm 8) ∧ Own [] w w' := by
  have hK1 : ∀ w', Own [] w w' → w'.cell? ⟨xb, 0, none⟩ = some v := fun w' ho => cell_of_row w' xb 0 _ _ _ (h.nil' ho).row
  have hrd := h.own.reads wEnc_len
  have cM := fun f W => dmatch_any f nm W
  obtain ⟨a, cap, rfl⟩ := h.own.sl
  obtain ⟨N, hN⟩ : ∃ N, r.length = N := ⟨_, rfl⟩
  rw [hN] at hl hrd hK1
  replace hN := Lib.hid hN
  replace hrd := Lib.hid hrd
  replace hK1 := Lib.hid hK1
  replace cM := Lib.hid cM
  clear h
  go_enter Tryz.func10, Tryz.ntmps10
  go_wp2_with fail
  go_loopg [5, 6, 7, 8] 8 (fun g s5 s6 s7 s8 wr => ∃ (i : Nat) (T : List (Int × Int)) (a1 : Option Addr) (m c1 : Nat), s6 = .int .i64 i ∧ s5 = .slice a1 m c1 ∧ i ≤ 8 ∧ g = 8 - i ∧ Aside (T = dHits r nm i ∧ T.length = m ∧ Sl 57 hEnc 2 w.heap.size wr (.slice a1 m c1) T ∧ Own [] w wr))
  case atStart => exact ⟨0, [], none, 0, 0, rfl, rfl, by omega, rfl, rfl, rfl, Sl.nil _ _ _, Own.refl _ _⟩
  case round =>
    obtain ⟨i, T, a1, m, c1, rfl, rfl, hi, rfl, hT, hTm, hSl, hO⟩ := hrel
    have hwi : IntKind.i64.wrap ((i : Int) + 1) = (i : Int) + 1 := IntWalk.i64_in _ (by omega)
    by_cases hi8 : i < 8
    · have i1 : (i : Int) < 8 := by omega
      obtain ⟨w5, h5⟩ : ∃ W : World, W = wr := ⟨_, rfl⟩
      subst h5
      have hTl : T.length ≤ 8 := by rw [hT]; exact Nat.le_trans (dHits_len r nm i) hi
      replace hT := Lib.hid hT
      replace hTm := Lib.hid hTm
      replace hSl := Lib.hid hSl
      replace hO := Lib.hid hO
      go_wp2_with fail
      go_loopg [7, 8] N (fun g s7 s8 wr => ∃ (j : Nat), j ≤ N ∧ g = N - j ∧ s8 = .int .i64 j ∧ s7 = .int .i64 (wBest (r.take j) nm i) ∧ Own [] w5 wr)
      case atStart => exact ⟨0, by omega, rfl, rfl, rfl, Own.refl _ _⟩
      case round =>
        obtain ⟨j, hj, rfl, rfl, rfl, hO2⟩ := hrel
        have j0 : (0 : Int) ≤ j := by omega
        have hO3 := hO.out.trans hO2
        have kx := hK1.out wr hO3
        by_cases hjN : j < N
        · have j1 : (j : Int) < N := by omega
          have hwj : IntKind.i64.wrap ((j : Int) + 1) = (j : Int) + 1 := IntWalk.i64_in _ (by omega)
          have hRr := hrd.out.nil' hO3
          obtain ⟨p, hp⟩ : ∃ p, r[j]? = some p := ⟨_, List.getElem?_eq_getElem (by have := hN.out; omega)⟩
          have hst := wBest_step (nm := nm) (k := i) hp
          obtain ⟨b, o, rfl, hc⟩ := hRr.at_ wEnc_len (by have := hN.out; omega)
          obtain ⟨⟨p1, p2⟩, p3⟩ := p
          have e0 : wr.cell? ⟨b, o + j * 3, none⟩ = some (.int .i64 p1) := by simpa using hc j _ 0 _ hp rfl
          have e1 : wr.cell? ⟨b, o + j * 3 + 1, none⟩ = some (.string p2) := by rw [Nat.add_assoc]; exact hc j _ 1 _ hp rfl
          have e2 : wr.cell? ⟨b, o + j * 3 + 2, none⟩ = some (.int .i64 p3) := by rw [Nat.add_assoc]; exact hc j _ 2 _ hp rfl
          have e2' : ∀ W, Own [] wr W → W.cell? ⟨b, o + j * 3 + 2, none⟩ = some (.int .i64 p3) := fun W ho => (ho.cell (block_lt_of_cell e2) (by simp)).trans e2
          have kx' := fun W (ho : Own [] wr W) => hK1.out W (hO3.trans ho)
          unfold wStep at hst
          simp only at hst
          replace e2' := Lib.hid e2'
          replace kx' := Lib.hid kx'
          replace hO2 := Lib.hid hO2
          clear hc hRr hp e2 hO3
          by_cases h1 : p1 = i
          · have h1' : (p1 == (i : Int)) = true := by simpa using h1
            have cM1 := cM.out p2 wr
            cases hmt : mMatch p2 nm
            · rw [hmt] at cM1
              rw [if_neg (by rw [hmt]; simp)] at hst
              replace hst := Lib.hid hst
              replace cM1 := Lib.hid cM1
              clear hmt h1
              go_wp2_with ((go_at_call 29; (with_reducible refine cM1.out.mono ?_); rintro e w9 ⟨rfl, hO9⟩; replace hO9 := Lib.hid hO9))
              go_roundg (N - (j + 1))
              case measure => omega
              case rel => exact ⟨j + 1, by omega, rfl, by simp, by rw [hst.out], hO2.out.trans hO9.out⟩
            · rw [hmt] at cM1
              rw [if_pos ⟨h1, hmt⟩] at hst
              replace hst := Lib.hid hst
              replace cM1 := Lib.hid cM1
              clear hmt h1
              go_wp2_with ((go_at_call 29; (with_reducible refine cM1.out.mono ?_); rintro e w9 ⟨rfl, hO9⟩; have y0 := kx'.out _ hO9; have y1 := e2'.out _ hO9; replace hO9 := Lib.hid hO9))
              go_roundg (N - (j + 1))
              case measure => omega
              case rel => exact ⟨j + 1, by omega, rfl, by simp, by go_loud (rw [hst.out]), hO2.out.trans hO9.out⟩
          · have h1' : (p1 == (i : Int)) = false := by simpa using h1
            rw [if_neg (fun x => h1 x.1)] at hst
            replace hst := Lib.hid hst
            clear h1
            go_wp2_with fail
            go_roundg (N - (j + 1))
            case measure => omega
            case rel => exact ⟨j + 1, by omega, rfl, by simp, by rw [hst.out], hO2.out⟩
        · have j1 : ¬ (j : Int) < N := by omega
          have hfull : r.take j = r := List.take_of_length_le (by have := hN.out; omega)
          rw [hfull]
          have hd : dHits r nm (i + 1) = dHits r nm i ++ if 0 ≤ wBest r nm i then [((i : Int), wBest r nm i)] else [] := rfl
          generalize wBest r nm i = q at hd ⊢
          have hS3 := hSl.out.nil' hO2
          have hm8 : m ≤ 8 := by have := hTm.out; omega
          by_cases hq : 0 ≤ q
          · rw [if_pos hq] at hd
            have hRb := Reads.new (enc := hEnc) (T := 57) wr ((i : Int), q) 1
            have hSb := hS3.nil' ((Own.refl [] wr).alloc (.cells #[.int .i64 i, .int .i64 q] 57))
            have hOb := hO3.alloc (.cells #[.int .i64 i, .int .i64 q] 57)
            have hl1 := Lib.hid (show (T.length + [((i : Int), q)].length) * 16 ≤ 140737488355328 by simp only [List.length_singleton]; omega)
            have hl2 := Lib.hid (show T.length + [((i : Int), q)].length ≤ maxLen by unfold maxLen; simp only [List.length_singleton]; omega)
            have hlm2 := Lib.hid (show (T ++ [((i : Int), q)]).length = m + 1 by simp [hTm.out])
            replace hd := Lib.hid hd
            replace hRb := Lib.hid hRb
            replace hSb := Lib.hid hSb
            replace hOb := Lib.hid hOb
            clear hS3 hO2 hO3 hfull
            go_wp2_with (at_builtin; refine wpList_append_new2 rfl (.tmp 58) (.tmp 62) rfl hElem hOb.out rfl hSb.out rfl hRb.out hl1.out hl2.out ?_; intro v5 w6 hS5 hO5 _ _ _; obtain ⟨a5, c5, rfl⟩ := hS5.sl; rw [hlm2.out] at hS5 ⊢; replace hS5 := Lib.hid hS5; replace hO5 := Lib.hid hO5)
            go_roundg (8 - (i + 1))
            case measure => omega
            case rel => exact ⟨i + 1, _, a5, m + 1, c5, by simp, rfl, by omega, rfl, by rw [hd.out, hT.out], hlm2.out, hS5.out, hO5.out⟩
          · rw [if_neg hq, List.append_nil] at hd
            replace hd := Lib.hid hd
            replace hS3 := Lib.hid hS3
            replace hO3 := Lib.hid hO3
            clear hO2 hfull
            go_wp2_with fail
            go_roundg (8 - (i + 1))
            case measure => omega
            case rel => exact ⟨i + 1, T, a1, m, c1, by simp, rfl, by omega, rfl, by rw [hd.out, hT.out], hTm.out, hS3.out, hO3.out⟩
    · have i1 : ¬ (i : Int) < 8 := by omega
      obtain rfl : i = 8 := by omega
      subst hT
      replace hSl := Lib.hid hSl
      replace hO := Lib.hid hO
      clear hTm
      go_wp2_with fail
      go_ret
      exact ⟨_, rfl, hSl.out, hO.out⟩
end Go.Proofs.YtldagaliddgdjaaGreatDoor
