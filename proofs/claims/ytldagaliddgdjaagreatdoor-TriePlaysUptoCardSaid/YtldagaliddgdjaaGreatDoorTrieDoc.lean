/- The document's trie (crierref19): all wishes as they came. In memory: find, count, Len. -/
import Derived.Test.YtldagaliddgdjaaGreatDoorDocMatch
namespace Go.Proofs.YtldagaliddgdjaaGreatDoor
open Go.RowKit Go.Lib Go.Shelf Go.Sort

abbrev Ws := List ((Int × ByteArray) × Int)
def wEnc (x : (Int × ByteArray) × Int) : List Value := [.int .i64 x.1.1, .string x.1.2, .int .i64 x.2]
theorem wEnc_len (x : (Int × ByteArray) × Int) : (wEnc x).length = 3 := rfl
theorem wishInfo : (Tryz.prog.info? 69).map (fun i => (i.zero, i.size, i.bytes)) = some (some (.agg #[.int .i64 0, .string ⟨#[]⟩, .int .i64 0]), 3, 32) := by kernel_rfl
theorem wElem : Elem Tryz.prog 27 69 wEnc 3 32 where
  ut := Tryz.underlying27
  info := by obtain ⟨i, h1, h2, h3, h4⟩ := info_parts wishInfo; exact ⟨i, _, h1, h2, h3, h4, rfl⟩
  pos := by omega
  len := wEnc_len
  one x u hu := by simp [wEnc] at hu; rcases hu with rfl | rfl | rfl <;> rfl
structure WS (w : World) (xb : Nat) (v : Value) (r : Ws) : Prop where
  row : w.heap[xb]? = some (.cells #[v] 29 (0, 0))
  own : Sl 69 wEnc 3 0 w v r
  ne : v.ownBlock ≠ some xb
theorem WS.own' {S : List Nat} {w w' : World} {xb : Nat} {v : Value} {r : Ws} (h : WS w xb v r) (ho : Own S w w') (hx : xb ∉ S) (hS : ∀ b, v.ownBlock = some b → b ∉ S) : WS w' xb v r :=
  ⟨ho.heap h.row hx, h.own.own ho hS, h.ne⟩
theorem WS.nil' {w w' : World} {xb : Nat} {v : Value} {r : Ws} (h : WS w xb v r) (ho : Own [] w w') : WS w' xb v r := h.own' ho (by simp) (by simp)

def wPos (r : Ws) (k : Int) (s : ByteArray) : Nat := r.findIdx fun p => p.1 == (k, s)
theorem wPos_le (r : Ws) (k : Int) (s : ByteArray) : wPos r k s ≤ r.length := List.findIdx_le_length
theorem wPos_lt {r : Ws} {k : Int} {s : ByteArray} {j : Nat} (h : j < wPos r k s) : ∃ p, r[j]? = some p ∧ p.1 ≠ (k, s) := by
  have hl : j < r.length := Nat.lt_of_lt_of_le h (wPos_le r k s)
  refine ⟨r[j], List.getElem?_eq_getElem hl, ?_⟩
  have := List.not_of_lt_findIdx h
  simpa using this
theorem wPos_at {r : Ws} {k : Int} {s : ByteArray} (h : wPos r k s < r.length) : ∃ q, r[wPos r k s]? = some ((k, s), q) := by
  have h1 : (r[wPos r k s].1 == (k, s)) = true := List.findIdx_getElem (w := h)
  refine ⟨r[wPos r k s].2, ?_⟩
  rw [List.getElem?_eq_getElem h]
  have := eq_of_beq h1
  rw [← this]

set_option maxRecDepth 100000 in
set_option maxHeartbeats 1000000 in
theorem wfind_any (xb : Nat) (v : Value) (r : Ws) (k : Int) (s : ByteArray) (w : World) (h : WS w xb v r) (hl : r.length ≤ 1000) :
    Calls Tryz.prog 39 #[.pointer (some ⟨xb, 0, none⟩), .int .i64 k, .string s] w fun e w' =>
      e = .returned (.int .i64 (if wPos r k s < r.length then (wPos r k s : Int) else -1)) ∧ Own [] w w' := by
  have c1 : w.cell? ⟨xb, 0, none⟩ = some v := cell_of_row w xb 0 _ _ _ h.row
  have hrd := h.own.reads wEnc_len
  obtain ⟨a, cap, rfl⟩ := h.own.sl
  have hle := wPos_le r k s
  have hlb := fun j (h : j < wPos r k s) => wPos_lt h
  have hat := fun (h : wPos r k s < r.length) => wPos_at h
  replace hlb := Lib.hid hlb
  replace hat := Lib.hid hat
  replace hrd := Lib.hid hrd
  generalize hK : wPos r k s = K at *
  generalize hN : r.length = N at *
  replace hK := Lib.hid hK
  replace hN := Lib.hid hN
  clear h
  go_enter Tryz.func39, Tryz.ntmps39
  go_wp2_with fail
  go_loopg [7] (K + 1) (fun gk i wr => ∃ j : Nat, j ≤ K ∧ gk = K + 1 - j ∧ i = .int .i64 j ∧ wr = w)
  case atStart => exact ⟨0, by omega, by omega, rfl, rfl⟩
  case round =>
    obtain ⟨j, hj, rfl, rfl, rfl⟩ := hrel
    have j0 : (0 : Int) ≤ j := by omega
    by_cases hjN : j < N
    · have j1 : (j : Int) < N := by omega
      have hwj : IntKind.i64.wrap ((j : Int) + 1) = (j : Int) + 1 := IntWalk.i64_in _ (by omega)
      obtain ⟨b, o, rfl, hc⟩ := hrd.out.at_ wEnc_len (by have := hN.out; omega)
      by_cases hjK : j < K
      · obtain ⟨p, hp, hs⟩ := hlb.out j hjK
        obtain ⟨⟨p1, p2⟩, p3⟩ := p
        have e0 : wr.cell? ⟨b, o + j * 3, none⟩ = some (.int .i64 p1) := by simpa using hc j _ 0 _ hp rfl
        have e1 : wr.cell? ⟨b, o + j * 3 + 1, none⟩ = some (.string p2) := by rw [Nat.add_assoc]; exact hc j _ 1 _ hp rfl
        by_cases h1 : p1 = k
        · subst h1
          have h2 : ¬ p2 = s := fun e => hs (by rw [e])
          have h2' : (p2.toList == s.toList) = false := by rw [← eq_toList]; simpa using h2
          clear hp hs hc h2
          go_wp2_with fail
          go_roundg (K + 1 - (j + 1))
          case measure => omega
          case rel => exact ⟨j + 1, by omega, rfl, by simp, rfl⟩
        · have h1' : (p1 == k) = false := by simpa using h1
          clear hp hs hc
          go_wp2_with fail
          go_roundg (K + 1 - (j + 1))
          case measure => omega
          case rel => exact ⟨j + 1, by omega, rfl, by simp, rfl⟩
      · obtain rfl : j = K := by omega
        obtain ⟨q, hp⟩ := hat.out hjN
        have e0 : wr.cell? ⟨b, o + j * 3, none⟩ = some (.int .i64 k) := by simpa using hc j _ 0 _ hp rfl
        have e1 : wr.cell? ⟨b, o + j * 3 + 1, none⟩ = some (.string s) := by rw [Nat.add_assoc]; exact hc j _ 1 _ hp rfl
        clear hp hc
        go_wp2_with fail
        go_ret
        exact ⟨rfl, Own.refl _ _⟩
    · have j1 : ¬ (j : Int) < N := by omega
      obtain rfl : j = K := by omega
      go_wp2_with fail
      go_ret
      exact ⟨rfl, Own.refl _ _⟩

def wCount (r : Ws) (k : Int) : Nat := r.countP fun p => p.1.1 == k
theorem wCount_step {r : Ws} {k : Int} {j : Nat} {x : (Int × ByteArray) × Int} (h : r[j]? = some x) : wCount (r.take (j + 1)) k = wCount (r.take j) k + if x.1.1 = k then 1 else 0 := by
  unfold wCount
  rw [List.take_add_one, h, List.countP_append]
  simp [List.countP_cons]
theorem wCount_le (r : Ws) (k : Int) : wCount r k ≤ r.length := List.countP_le_length
set_option maxRecDepth 100000 in
set_option maxHeartbeats 1000000 in
theorem wcount_any (xb : Nat) (v : Value) (r : Ws) (k : Int) (w : World) (h : WS w xb v r) (hl : r.length ≤ 1000) :
    Calls Tryz.prog 40 #[.pointer (some ⟨xb, 0, none⟩), .int .i64 k] w fun e w' =>
      e = .returned (.int .i64 (wCount r k)) ∧ Own [] w w' := by
  have c1 : w.cell? ⟨xb, 0, none⟩ = some v := cell_of_row w xb 0 _ _ _ h.row
  have hrd := h.own.reads wEnc_len
  obtain ⟨a, cap, rfl⟩ := h.own.sl
  replace hrd := Lib.hid hrd
  obtain ⟨N, hN⟩ : ∃ N, r.length = N := ⟨_, rfl⟩
  rw [hN] at hl hrd c1
  replace hN := Lib.hid hN
  clear h
  go_enter Tryz.func40, Tryz.ntmps40
  go_wp2_with fail
  go_loopg [5, 6] N (fun gk n i wr => ∃ j : Nat, j ≤ N ∧ gk = N - j ∧ i = .int .i64 j ∧ n = .int .i64 (wCount (r.take j) k) ∧ wr = w)
  case atStart => exact ⟨0, by omega, by omega, rfl, rfl, rfl⟩
  case round =>
    obtain ⟨j, hj, rfl, rfl, rfl, rfl⟩ := hrel
    have j0 : (0 : Int) ≤ j := by omega
    by_cases hjN : j < N
    · have j1 : (j : Int) < N := by omega
      have hwj : IntKind.i64.wrap ((j : Int) + 1) = (j : Int) + 1 := IntWalk.i64_in _ (by omega)
      obtain ⟨b, o, rfl, hc⟩ := hrd.out.at_ wEnc_len (by have := hN.out; omega)
      obtain ⟨p, hp⟩ : ∃ p, r[j]? = some p := ⟨_, List.getElem?_eq_getElem (by have := hN.out; omega)⟩
      have hst := wCount_step (k := k) hp
      have hcl : wCount (r.take j) k ≤ 1000 := Nat.le_trans (wCount_le _ _) (by simp; omega)
      obtain ⟨⟨p1, p2⟩, p3⟩ := p
      have e0 : wr.cell? ⟨b, o + j * 3, none⟩ = some (.int .i64 p1) := by simpa using hc j _ 0 _ hp rfl
      simp only at hst
      obtain ⟨cn, hcn⟩ : ∃ cn, wCount (r.take j) k = cn := ⟨_, rfl⟩
      rw [hcn] at hst hcl ⊢
      have hwn : IntKind.i64.wrap ((cn : Int) + 1) = (cn : Int) + 1 := IntWalk.i64_in _ (by omega)
      clear hcn hc hp
      by_cases h1 : p1 = k
      · rw [if_pos h1] at hst
        have h1' : (p1 == k) = true := by simpa using h1
        replace hst := Lib.hid hst
        clear h1
        go_wp2_with fail
        go_roundg (N - (j + 1))
        case measure => omega
        case rel => exact ⟨j + 1, by omega, rfl, by simp, by rw [hst.out]; simp, rfl⟩
      · rw [if_neg h1] at hst
        have h1' : (p1 == k) = false := by simpa using h1
        replace hst := Lib.hid hst
        go_wp2_with fail
        go_roundg (N - (j + 1))
        case measure => omega
        case rel => exact ⟨j + 1, by omega, rfl, by simp, by rw [hst.out]; simp, rfl⟩
    · have j1 : ¬ (j : Int) < N := by omega
      have hfull : r.take j = r := List.take_of_length_le (by have := hN.out; omega)
      rw [hfull]
      go_wp2_with fail
      go_ret
      exact ⟨rfl, Own.refl _ _⟩
set_option maxRecDepth 100000 in
theorem wlen_any (xb : Nat) (v : Value) (r : Ws) (w : World) (h : WS w xb v r) :
    Calls Tryz.prog 7 #[.pointer (some ⟨xb, 0, none⟩)] w fun e w' => e = .returned (.int .i64 r.length) ∧ w = w' := by
  have c1 : w.cell? ⟨xb, 0, none⟩ = some v := cell_of_row w xb 0 _ _ _ h.row
  obtain ⟨a, cap, rfl⟩ := h.own.sl
  clear h
  go_enter Tryz.func7, Tryz.ntmps7
  go_wp2_with fail
  go_ret
  exact ⟨rfl, rfl⟩
/-! what the operations come to -/
def dAdd (r : Ws) (who : Int) (s : ByteArray) (q : Int) : (Bool × Int) × Ws :=
  if who < 0 ∨ 8 ≤ who then ((false, 1), r)
  else if lvFilter s = false then ((false, 14), r)
  else if q < 0 ∨ 2 < q then ((false, 5), r)
  else if wPos r who s < r.length then ((true, 0), r.set (wPos r who s) ((who, s), q))
  else if 16 ≤ wCount r who then ((false, 6), r)
  else ((false, 0), r ++ [((who, s), q)])
def dDrop (r : Ws) (who : Int) (s : ByteArray) : Bool × Ws := if wPos r who s < r.length then (true, r.take (wPos r who s) ++ r.drop (wPos r who s + 1)) else (false, r)
def dClear (r : Ws) (who : Int) : Nat × Ws := (wCount r who, r.filter fun p => !(p.1.1 == who))
end Go.Proofs.YtldagaliddgdjaaGreatDoor
