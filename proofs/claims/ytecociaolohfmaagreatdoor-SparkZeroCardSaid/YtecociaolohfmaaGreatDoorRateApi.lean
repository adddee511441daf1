/- Package rate: find, May, Ask, Last, New, Len. -/
import Derived.Test.YtecociaolohfmaaGreatDoorRateAsk
namespace Go.Proofs.YtecociaolohfmaaGreatDoor
open Go.RowKit

theorem eq_any (xb kb : Nat) (k1 k2 : ByteArray) (w : World) (h1 : w.cell? ⟨xb, 0, none⟩ = some (.string k1)) (h2 : w.cell? ⟨kb, 0, none⟩ = some (.string k2)) :
    Calls Tryz.prog 155 #[.pointer (some ⟨xb, 0, none⟩), .pointer (some ⟨kb, 0, none⟩)] w fun e w' => e = .returned (.bool (k1 == k2)) ∧ Own [] w w' := by
  rw [beq_toListBytes]
  go_enter Tryz.func155, Tryz.ntmps155
  go_wp2_with fail
  go_quiet (fail)
  go_wp2_with fail
  go_ret
  exact ⟨rfl, (Own.refl _ _).drewN _⟩

def rFind (ms : List Mk) (key : ByteArray) : Option Nat := ms.findIdx? fun x => x.key == key
def rIdx (ms : List Mk) (key : ByteArray) : Int := match rFind ms key with | some i => i | none => -1
theorem rFind_some {ms : List Mk} {key : ByteArray} {i : Nat} (hi : i < ms.length) (h0 : ∀ j, j < i → ((ms.getD j Mk.dflt).key == key) = false) (h1 : ((ms.getD i Mk.dflt).key == key) = true) : rFind ms key = some i := by
  unfold rFind
  rw [List.findIdx?_eq_some_iff_getElem]
  simp only [List.getD, List.getElem?_eq_getElem hi, Option.getD_some] at h1
  refine ⟨hi, h1, fun j hj => ?_⟩
  have := h0 j hj
  simp only [List.getD, List.getElem?_eq_getElem (show j < ms.length by omega), Option.getD_some] at this
  simp [this]
theorem rFind_none {ms : List Mk} {key : ByteArray} (h0 : ∀ j, j < ms.length → ((ms.getD j Mk.dflt).key == key) = false) : rFind ms key = none := by
  unfold rFind
  rw [List.findIdx?_eq_none_iff]
  intro x hx
  obtain ⟨j, hj, rfl⟩ := List.getElem_of_mem hx
  have := h0 j hj
  simpa only [List.getD, List.getElem?_eq_getElem hj, Option.getD_some] using this
theorem rFind_lt {ms : List Mk} {key : ByteArray} {i : Nat} (h : rFind ms key = some i) : i < ms.length ∧ (ms.getD i Mk.dflt).key = key := by
  obtain ⟨hl, hk, _⟩ := List.findIdx?_eq_some_iff_getElem.1 h
  refine ⟨hl, ?_⟩
  simp only [List.getD, List.getElem?_eq_getElem hl, Option.getD_some]
  exact LawfulBEq.eq_of_beq hk

theorem index_any (v : Value) (ms : List Mk) (kb : Nat) (key : ByteArray) (w : World) (h : Marks w v ms) (hl : ms.length ≤ 1000) (hk : w.cell? ⟨kb, 0, none⟩ = some (.string key)) :
    Calls Tryz.prog 154 #[v, .func (.func 155) #[] #[.pointer (some ⟨kb, 0, none⟩)]] w fun e w' => e = .returned (.int .i64 (rIdx ms key)) ∧ Own [] w w' := by
  obtain ⟨a, cap, rfl⟩ := h.sl
  have hkb := block_lt_of_cell hk
  generalize hr : rIdx ms key = r
  replace hr := Lib.hid hr
  have hcells : ∀ j, j < ms.length → ∃ g, a = some ⟨g, 0, none⟩ ∧ g < w.heap.size ∧ w.cell? ⟨g, j, none⟩ = some (.pointer (some ⟨(ms.getD j Mk.dflt).blk, 0, none⟩)) ∧ w.cell? ⟨(ms.getD j Mk.dflt).blk, 0, none⟩ = some (.string (ms.getD j Mk.dflt).key) := by
    intro j hj
    obtain ⟨g, cap', cur, hv, hg, hn, hs, hc⟩ := h.shape (by omega)
    simp only [Value.slice.injEq] at hv
    have mj : ms.getD j Mk.dflt ∈ ms := by simp [List.getD, List.getElem?_eq_getElem hj]
    exact ⟨g, hv.1, lt_of_heap hg, (cell_of_row w g j _ _ _ hg).trans (hc j hj), cell_of_row w _ 0 _ _ _ (h.marks _ mj).1⟩
  replace hcells := Lib.hid hcells
  clear h
  go_enter Tryz.func154, Tryz.ntmps154
  go_wp2_with fail
  go_loopg [8] ms.length (fun g s8 wr => ∃ k : Nat, k ≤ ms.length ∧ g = ms.length - k ∧ s8 = .int .i64 k ∧ Own [] w wr ∧ Hid (∀ j, j < k → ((ms.getD j Mk.dflt).key == key) = false))
  case atStart => exact ⟨0, by omega, by omega, rfl, Own.refl _ _, Lib.hid (fun j hj => by omega)⟩
  case round =>
    obtain ⟨k, hk1, rfl, rfl, hO, hN⟩ := hrel
    by_cases hlt : k < ms.length
    · obtain ⟨g, rfl, hgl, hc, hd⟩ := hcells.out k hlt
      have hc' : wr.cell? ⟨g, k, none⟩ = some (.pointer (some ⟨(ms.getD k Mk.dflt).blk, 0, none⟩)) := (hO.cell (p := ⟨g, k, none⟩) hgl (by simp)).trans hc
      have E := eq_any (ms.getD k Mk.dflt).blk kb (ms.getD k Mk.dflt).key key wr ((hO.cell (p := ⟨(ms.getD k Mk.dflt).blk, 0, none⟩) (block_lt_of_cell hd) (by simp)).trans hd) ((hO.cell (p := ⟨kb, 0, none⟩) hkb (by simp)).trans hk)
      have hlast : ∀ b, ((ms.getD k Mk.dflt).key == key) = b → if b then r = k else (∀ j, j < k + 1 → ((ms.getD j Mk.dflt).key == key) = false) := by
        intro b hb
        cases b
        · simp only [Bool.false_eq_true, if_false]
          intro j hj
          by_cases e : j = k
          · rw [e]; exact hb
          · exact hN.out j (by omega)
        · simp only [if_true]
          rw [← hr.out]
          unfold rIdx
          rw [rFind_some hlt hN.out hb]
      generalize hx : ms.getD k Mk.dflt = x at *
      clear hx
      generalize (x.key == key) = b at E hlast
      have hlast := Lib.hid (hlast b rfl)
      replace E := Lib.hid E
      clear hc hd
      go_wp2_with fail
      refine E.out.mono ?_
      rintro e w2 ⟨rfl, hO2⟩
      cases b
      · go_wp2_with fail
        go_roundg (ms.length - (k + 1))
        case measure => omega
        case rel => exact ⟨k + 1, by omega, rfl, by go_num, hO.trans hO2, Lib.hid (by simpa using hlast.out)⟩
      · go_wp2_with fail
        go_ret
        exact ⟨by rw [show r = (k : Int) by simpa using hlast.out]; rfl, hO.trans hO2⟩
    · have hrn : r = -1 := by
        rw [← hr.out]; unfold rIdx; rw [rFind_none (fun j hj => hN.out j (by omega))]
      replace hrn := Lib.hid hrn
      have hge : ms.length ≤ k := by omega
      go_wp2_with fail
      go_ret
      exact ⟨by rw [hrn.out]; rfl, hO⟩

theorem find_any (rb : Nat) (gap : Int) (v : Value) (ms : List Mk) (key : ByteArray) (w : World) (h : RateAt w rb gap v ms) (hl : ms.length ≤ 1000) :
    Calls Tryz.prog 110 #[.pointer (some ⟨rb, 0, none⟩), .string key] w fun e w' => e = .returned (.int .i64 (rIdx ms key)) ∧ Own [] w w' := by
  have hrb := lt_of_heap h.row
  have hO := (Own.refl [] w).alloc (.cells #[.string key] 9)
  have h1 := h.nil hO
  have c1 : w.cell? ⟨rb, 1, none⟩ = some v := cell_of_row w rb 1 _ _ _ h.row
  have c1' : (w.alloc (.cells #[.string key] 9)).cell? ⟨rb, 1, none⟩ = some v := cell_of_row _ rb 1 _ _ _ h1.row
  have I := Lib.hid (index_any v ms w.heap.size key _ h1.marks hl (by simp))
  clear h h1
  go_enter Tryz.func110, Tryz.ntmps110
  go_wp2_with fail
  refine I.out.mono ?_
  rintro e w2 ⟨rfl, hO2⟩
  go_wp2_with fail
  go_ret
  exact ⟨rfl, hO.trans hO2⟩

theorem none_any (rb : Nat) (w : World) (m : Bool) (hm : w.cell? ⟨rb, 2, none⟩ = some (.bool m)) :
    Calls Tryz.prog 153 #[.pointer (some ⟨rb, 0, none⟩)] w fun e w' => e = .returned (.bool (!m)) ∧ w = w' := by
  go_enter Tryz.func153, Tryz.ntmps153
  go_wp2
  go_ret
  exact ⟨rfl, rfl⟩
def timedB (n : Int) : Bool := decide (0 ≤ n) && decide (n ≤ 1073741824)
theorem timed_any (n : Int) (w : World) : Calls Tryz.prog 89 #[.int .i64 n] w fun e w' => e = .returned (.bool (timedB n)) ∧ w = w' := by
  unfold timedB
  by_cases h0 : 0 ≤ n
  · by_cases h1 : n ≤ 1073741824
    · simp only [h0, h1, decide_true, Bool.and_true]
      go_enter Tryz.func89, Tryz.ntmps89
      go_wp2
      go_ret
      exact ⟨rfl, rfl⟩
    · simp only [h0, h1, decide_true, decide_false, Bool.and_false]
      go_enter Tryz.func89, Tryz.ntmps89
      go_wp2
      go_ret
      exact ⟨rfl, rfl⟩
  · simp only [h0, decide_false, Bool.false_and]
    go_enter Tryz.func89, Tryz.ntmps89
    go_wp2
    go_ret
    exact ⟨rfl, rfl⟩

/-! ### what a rate knows -/
abbrev RTab := List (ByteArray × Int)
def kv (ms : List Mk) : RTab := ms.map fun x => (x.key, x.at_)
/-- A rate in memory: B holds all its blocks. -/
structure Rate (w : World) (rb : Nat) (gap : Int) (B : List Nat) (l : RTab) : Prop where
  len : l.length ≤ 8
  nd : (l.map (·.1)).Nodup
  gp : 0 ≤ gap ∧ gap ≤ 1073741824
  at_ : ∃ v ms, RateAt w rb gap v ms ∧ (kv ms).Perm l ∧ rb ∈ B ∧ (∀ g, v.ownBlock = some g → g ∈ B) ∧ ∀ x ∈ ms, x.blk ∈ B
theorem Rate.own {S : List Nat} {w w' : World} {rb : Nat} {gap : Int} {B : List Nat} {l : RTab} (h : Rate w rb gap B l) (ho : Own S w w') (hd : ∀ x ∈ B, x ∉ S) : Rate w' rb gap B l :=
  let ⟨v, ms, h1, h2, h3, h4, h5⟩ := h.at_
  ⟨h.len, h.nd, h.gp, v, ms, h1.own ho (hd _ h3) (fun g hg => hd _ (h4 g hg)) (fun x hx => hd _ (h5 x hx)), h2, h3, h4, h5⟩
theorem Rate.nil {w w' : World} {rb : Nat} {gap : Int} {B : List Nat} {l : RTab} (h : Rate w rb gap B l) (ho : Own [] w w') : Rate w' rb gap B l := h.own ho (by simp)
def rMay (l : RTab) (gap : Int) (key : ByteArray) (now : Int) : Bool :=
  timedB now && (match aGet l key with | some t => decide (gap ≤ now - t) | none => decide (l.length < 8))

theorem aGet_kv (ms : List Mk) (key : ByteArray) : aGet (kv ms) key = (rFind ms key).map fun i => (ms.getD i Mk.dflt).at_ := by
  have h1 : (kv ms).findIdx? (fun p => key == p.1) = rFind ms key := by
    unfold kv rFind
    rw [List.findIdx?_map]
    congr 1; funext x
    simp only [Function.comp]
    cases h1 : (key == x.key) <;> cases h2 : (x.key == key) <;> simp_all
  rw [findIdx_get, h1]
  cases hf : rFind ms key with
  | none => rfl
  | some i =>
    have := (rFind_lt hf).1
    simp [kv, List.getD, List.getElem?_eq_getElem this]
theorem kv_nodup {ms : List Mk} {l : RTab} (hp : (kv ms).Perm l) (hn : (l.map (·.1)).Nodup) : ((kv ms).map (·.1)).Nodup := (hp.map _).nodup_iff.2 hn

theorem kv_get {ms : List Mk} {i : Nat} (h : i < ms.length) : (kv ms)[i]? = some ((ms.getD i Mk.dflt).key, (ms.getD i Mk.dflt).at_) := by
  simp [kv, List.getD, List.getElem?_eq_getElem h]

set_option maxHeartbeats 1000000 in
theorem may_any (rb : Nat) (gap : Int) (B : List Nat) (l : RTab) (key : ByteArray) (now : Int) (w : World) (h : Rate w rb gap B l) :
    Calls Tryz.prog 109 #[.pointer (some ⟨rb, 0, none⟩), .string key, .int .i64 now] w fun e w' => e = .returned (.bool (rMay l gap key now)) ∧ Own [] w w' := by
  obtain ⟨v, ms, hR, hp, _⟩ := h.at_
  have hlen : ms.length ≤ 8 := by have := hp.length_eq; have := h.len; simp [kv] at *; omega
  have hll : l.length = ms.length := by have := hp.length_eq; simpa [kv] using this.symm
  have c2 : w.cell? ⟨rb, 2, none⟩ = some (.bool true) := cell_of_row w rb 2 _ _ _ hR.row
  have hno := Lib.hid (none_any rb w true c2)
  have hti := Lib.hid (timed_any now w)
  have hgp0 := h.gp.1
  have hgp1 := h.gp.2
  unfold rMay
  have hg : aGet l key = aGet (kv ms) key := (aGet_perm hp (kv_nodup hp h.nd) key).symm
  rw [hg, aGet_kv, hll]
  have F := find_any rb gap v ms key w hR (by omega)
  unfold rIdx at F
  cases ht : timedB now with
  | false =>
    rw [ht] at hti
    rw [Bool.false_and]
    clear F
    go_enter Tryz.func109, Tryz.ntmps109
    go_wp2_with fail
    refine hno.out.mono ?_
    rintro e w' ⟨rfl, rfl⟩
    go_wp2_with fail
    refine hti.out.mono ?_
    rintro e w' ⟨rfl, rfl⟩
    go_wp2_with fail
    go_ret
    exact ⟨rfl, Own.refl _ _⟩
  | true =>
    rw [ht] at hti
    have hnow : 0 ≤ now ∧ now ≤ 1073741824 := by simpa [timedB] using ht
    obtain ⟨hn0, hn1⟩ := hnow
    cases hf : rFind ms key with
    | none =>
      rw [hf] at F
      replace F := Lib.hid F
      have hK := fun w' (ho : Own [] w w') => (cell_of_row w' rb 1 _ _ _ (hR.nil ho).row : w'.cell? ⟨rb, 1, none⟩ = some v)
      obtain ⟨a, cap, rfl⟩ := hR.marks.sl
      replace hK := Lib.hid hK
      clear hR hp hf hg ht h
      simp only [Option.map_none, Bool.true_and]
      go_enter Tryz.func109, Tryz.ntmps109
      go_wp2_with fail
      refine hno.out.mono ?_
      rintro e w' ⟨rfl, rfl⟩
      go_wp2_with fail
      refine hti.out.mono ?_
      rintro e w' ⟨rfl, rfl⟩
      go_wp2_with fail
      refine F.out.mono ?_
      rintro e w2 ⟨rfl, hO2⟩
      have c1 := hK.out w2 hO2
      go_wp2_with fail
      go_ret
      exact ⟨by congr 3; simp [decide_eq_decide]; omega, hO2⟩
    | some i =>
      rw [hf] at F
      replace F := Lib.hid F
      obtain ⟨hi, hkey⟩ := rFind_lt hf
      have hK : ∀ w', Own [] w w' → ∃ g cap, v = .slice (some ⟨g, 0, none⟩) ms.length cap ∧ w'.cell? ⟨rb, 1, none⟩ = some v ∧ w'.cell? ⟨rb, 0, none⟩ = some (.int .i64 gap) ∧
          w'.cell? ⟨g, i, none⟩ = some (.pointer (some ⟨(ms.getD i Mk.dflt).blk, 0, none⟩)) ∧ w'.cell? ⟨(ms.getD i Mk.dflt).blk, 1, none⟩ = some (.int .i64 (ms.getD i Mk.dflt).at_) := by
        intro w' ho
        have hR' := hR.nil ho
        obtain ⟨g, cap, cur, hv, hg, hn, hs, hc⟩ := hR'.marks.shape (by omega)
        have mi : ms.getD i Mk.dflt ∈ ms := by simp [List.getD, List.getElem?_eq_getElem hi]
        exact ⟨g, cap, hv, cell_of_row w' rb 1 _ _ _ hR'.row, cell_of_row w' rb 0 _ _ _ hR'.row, (cell_of_row w' g i _ _ _ hg).trans (hc i hi), cell_of_row w' _ 1 _ _ _ (hR'.marks.marks _ mi).1⟩
      have mi : ms.getD i Mk.dflt ∈ ms := by simp [List.getD, List.getElem?_eq_getElem hi]
      have ht0 := (hR.marks.marks _ mi).2.1
      have ht1 := (hR.marks.marks _ mi).2.2
      replace hK := Lib.hid hK
      clear hR hp hf hg ht h mi hkey
      simp only [Option.map_some, Bool.true_and]
      generalize ms.getD i Mk.dflt = x at *
      have b1 : (0 : Int) ≤ i := by omega
      have b2 : (i : Int) < ms.length := by omega
      go_enter Tryz.func109, Tryz.ntmps109
      go_wp2_with fail
      refine hno.out.mono ?_
      rintro e w' ⟨rfl, rfl⟩
      go_wp2_with fail
      refine hti.out.mono ?_
      rintro e w' ⟨rfl, rfl⟩
      go_wp2_with fail
      refine F.out.mono ?_
      rintro e w2 ⟨rfl, hO2⟩
      obtain ⟨g, cap, rfl, c1, c0, cg, cx⟩ := hK.out w2 hO2
      go_wp2_with fail
      go_quiet (fail)
      go_wp2_with fail
      go_ret
      exact ⟨rfl, hO2.drewN _⟩
end Go.Proofs.YtecociaolohfmaaGreatDoor
