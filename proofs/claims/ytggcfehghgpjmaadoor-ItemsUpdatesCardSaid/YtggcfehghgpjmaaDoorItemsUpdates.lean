/- ItemsUpdates: any items, any metrics, any aliases. -/
import Derived.Test.YtggcfehghgpjmaaDoorItemsRefUpd
import Derived.Test.YtggcfehghgpjmaaDoorAliasRefSet2
import Derived.Test.YtggcfehghgpjmaaDoorAliasSet
namespace Go.Proofs.YtggcfehghgpjmaaDoor
open Go.RowKit

/-! ### plain: the two tables of one owner are one -/
theorem rWant_add (ow : ByteArray) (pre : List Itm) (x : Itm) : rWant ow (pre ++ [x]) = if x.has then rWant ow pre ++ [(x.al, (ow, x.name))] else rWant ow pre := by
  unfold rWant
  rw [List.filter_append, List.map_append]
  cases hx : x.has <;> simp [hx]
theorem rDup_get (ow : ByteArray) (pre : List Itm) (x : Itm) : rDup pre x = (aGet (rWant ow pre) x.al).isSome := by
  cases hg : aGet (rWant ow pre) x.al with
  | none =>
    rw [aGet_none_iff] at hg
    show rDup pre x = false
    unfold rDup
    rw [List.any_eq_false]
    intro y hy
    cases hh : y.has
    · simp
    · have := hg (y.al, (ow, y.name)) (by unfold rWant; exact List.mem_map.2 ⟨y, List.mem_filter.2 ⟨hy, hh⟩, rfl⟩)
      simpa using this
  | some s =>
    have hne : ¬ ∀ p ∈ rWant ow pre, p.1 ≠ x.al := by
      rw [← aGet_none_iff, hg]
      simp
    unfold rDup
    simp only [Option.isSome_some]
    rw [List.any_eq_true]
    apply Classical.byContradiction
    intro hc
    refine hne fun p hp e => hc ?_
    unfold rWant at hp
    obtain ⟨y, hy, rfl⟩ := List.mem_map.1 hp
    obtain ⟨hy1, hy2⟩ := List.mem_filter.1 hy
    exact ⟨y, hy1, by simp [hy2]; exact e⟩
theorem fresh_go (ow : ByteArray) : ∀ (L pre : List Itm) (n : Nat), n = (rWant ow pre).length →
    (aFresh ow L (rWant ow pre) = none ∧ rGo [] ow pre L n = 16) ∨ (aFresh ow L (rWant ow pre) = some (rWant ow (pre ++ L)) ∧ rGo [] ow pre L n = if 64 < (rWant ow (pre ++ L)).length then 6 else 0)
  | [], pre, n, h => by
    right
    subst h
    simp [aFresh, rGo]
  | x :: r, pre, n, h => by
    rw [rGo_cons]
    unfold aFresh
    have hadd := rWant_add ow pre x
    have hap : pre ++ x :: r = (pre ++ [x]) ++ r := by simp
    cases hh : x.has
    · rw [hh] at hadd
      simp only [Bool.false_eq_true, if_false] at hadd ⊢
      rw [hap, ← hadd]
      exact fresh_go ow r (pre ++ [x]) n (by rw [hadd]; exact h)
    · rw [hh] at hadd
      simp only [if_true] at hadd ⊢
      have hd := rDup_get ow pre x
      cases hg : aGet (rWant ow pre) x.al with
      | some s =>
        left
        rw [hg] at hd
        simp at hd
        simp [hd]
      | none =>
        rw [hg] at hd
        simp at hd
        have hcl : rClash [] ow x = false := rfl
        simp only [hd, hcl, Bool.false_eq_true, if_false]
        rw [hap, ← hadd]
        exact fresh_go ow r (pre ++ [x]) (n + 1) (by rw [hadd]; simp [h])
theorem set_same (ow : ByteArray) (L : List Itm) : (aSet [] ow L).2 = (rSet [] ow L).2 ∧ ((aSet [] ow L).2 = [] ∨ (aSet [] ow L).2 = rWant ow L) := by
  have h := fresh_go ow L [] 0 rfl
  have e0 : rWant ow [] = [] := rfl
  rw [e0] at h
  simp only [List.nil_append] at h
  have er : rTry [] ow L = rGo [] ow [] L 0 := rfl
  unfold aSet rSet aMay
  rw [er]
  rcases h with ⟨h1, h2⟩ | ⟨h1, h2⟩
  · rw [h1, h2]
    simp
  · rw [h1, h2]
    have hc : aClash [] ow (rWant ow L) = false := rfl
    have ho : aOthers [] ow = [] := rfl
    simp only [hc, ho, Bool.false_eq_true, if_false, List.length_nil, Nat.zero_add, List.nil_append]
    by_cases h64 : 64 < (rWant ow L).length
    · simp [h64]
    · simp [h64]
theorem find_same (ow o : ByteArray) (L : List Itm) (a : Int) : aFind (rWant ow L) o a = rFind (rWant ow L) o a := by
  unfold aFind rFind aGet rWant
  induction L.filter (·.has) with
  | nil => rfl
  | cons x r ih =>
    simp only [List.map_cons, List.find?_cons]
    unfold rHit at ih ⊢
    simp only at ih ⊢
    cases ha : (x.al == a)
    · simp only [Bool.and_false]
      exact ih
    · simp only [Bool.and_true, Option.map_some]
      cases ho : (ow == o)
      · simp only [Bool.false_eq_true, if_false]
        have : ∀ q : List Itm, (q.map fun x => (x.al, (ow, x.name))).find? (fun p => p.2.1 == o && p.1 == a) = none := by
          intro q
          rw [List.find?_eq_none]
          intro p hp
          obtain ⟨y, _, rfl⟩ := List.mem_map.1 hp
          simp [ho]
        rw [this]
        rfl
      · rfl
theorem tab_same (ow o : ByteArray) (L : List Itm) : aFind (aSet [] ow L).2 o = rFind (rSet [] ow L).2 o := by
  obtain ⟨h1, h2⟩ := set_same ow L
  rw [← h1]
  funext a
  rcases h2 with h2 | h2
  · rw [h2]; rfl
  · rw [h2]; exact find_same ow o L a
theorem rSet_len (ow : ByteArray) (L : List Itm) : (rSet [] ow L).2.length ≤ L.length := by
  unfold rSet
  split
  · have ho : aOthers [] ow = [] := rfl
    simp only [ho, List.nil_append, rWant, List.length_map]
    exact List.length_filter_le _ _
  · simp
theorem itList_at (L : List Itm) : itList L.length (itAt L) = L := by
  apply List.ext_getElem?
  intro i
  unfold itList
  by_cases h : i < L.length
  · simp [h, itAt, List.getD]
  · rw [List.getElem?_eq_none (by simp; omega), List.getElem?_eq_none (by omega)]
theorem RowsAt.itemRow {w : World} {a : Option Addr} {L : List Itm} (h : ItemsAt w a L) : ItemRow w a L.length (itAt L) := by
  refine ⟨h.1, fun hl => ?_⟩
  obtain ⟨b, o, e, hb, hx⟩ := h.2 hl
  exact ⟨b, o, e, hb, fun i hi => hx i _ (itAt_get hi)⟩
theorem updGo_len' (F : Int → ByteArray × Bool) : ∀ (M : List Met) (out : List Itm), (updGo F M out).2.length ≤ out.length
  | [], out => by simp [updGo]
  | m :: r, out => by
    have e : updGo F (m :: r) out = if (nameOf F m).1 = 1 then (match itIdx out (nameOf F m).2 with
      | some i => updGo F r (out.set i (updItm (itAt out i) m))
      | none => (7, [])) else ((nameOf F m).1, []) := rfl
    rw [e]
    split
    · cases itIdx out (nameOf F m).2 with
      | none => simp
      | some i =>
        have := updGo_len' F r (out.set i (updItm (itAt out i) m))
        simpa using this
    · simp

set_option maxRecDepth 100000 in
set_option maxHeartbeats 16000000 in
theorem itemsUpdates_walk (a0 : Option Addr) (L : List Itm) (c0 : Nat) (am : Option Addr) (M : List Met) (cm : Nat) (an : Option Addr) (NN : List Itm) (cn : Nat) (own : Bool) (w : World) (h0 : ItemsAt w a0 L) (hM : MetsAt w am M) (hN : ItemsAt w an NN) (hE : Errs w) :
    Calls Tryd.prog 6 #[.slice a0 L.length c0, .slice am M.length cm, .slice an NN.length cn, .bool own] w fun e w' => e = .returned (.bool true) ∧ Below w.heap.size w w' := by
  have hl0 := h0.1
  have hlM := hM.1
  have hlN := hN.1
  have AW0 := Lib.hid (awake_any w hE)
  have early : Calls Tryd.prog 6 #[.slice a0 L.length c0, .slice am M.length cm, .slice an NN.length cn, .bool own] w (fun e w' => e = .returned (.bool true) ∧ Below w.heap.size w w') ∨ (L.length ≤ 100 ∧ M.length ≤ 100 ∧ NN.length ≤ 100) := by
    by_cases k1 : L.length ≤ 100
    · by_cases k2 : M.length ≤ 100
      · by_cases k3 : NN.length ≤ 100
        · exact .inr ⟨k1, k2, k3⟩
        · left
          clear h0 hM hN hE
          go_enter Tryd.func6, Tryd.ntmps6
          go_wp2_with fail
          refine AW0.out.mono ?_
          rintro e w2 ⟨rfl, hO2⟩
          replace hO2 := Lib.hid hO2
          go_wp2_with fail
          go_ret
          exact ⟨rfl, hO2.out.below (Nat.le_refl _) (by simp)⟩
      · left
        clear h0 hM hN hE
        go_enter Tryd.func6, Tryd.ntmps6
        go_wp2_with fail
        refine AW0.out.mono ?_
        rintro e w2 ⟨rfl, hO2⟩
        replace hO2 := Lib.hid hO2
        go_wp2_with fail
        go_ret
        exact ⟨rfl, hO2.out.below (Nat.le_refl _) (by simp)⟩
    · left
      clear h0 hM hN hE
      go_enter Tryd.func6, Tryd.ntmps6
      go_wp2_with fail
      refine AW0.out.mono ?_
      rintro e w2 ⟨rfl, hO2⟩
      replace hO2 := Lib.hid hO2
      go_wp2_with fail
      go_ret
      exact ⟨rfl, hO2.out.below (Nat.le_refl _) (by simp)⟩
  rcases early with early | ⟨k1, k2, k3⟩
  · exact early
  clear AW0
  obtain ⟨ow, how⟩ : ∃ ow : ByteArray, ow = if own then ⟨#[100]⟩ else ⟨#[]⟩ := ⟨_, rfl⟩
  have hsame := tab_same ⟨#[100]⟩ ow NN
  have hrl := rSet_len ⟨#[100]⟩ NN
  have hcode := updGo_len' (rFind (rSet [] ⟨#[100]⟩ NN).2 ow) M L
  generalize hta : aSet [] ⟨#[100]⟩ NN = ta at hsame
  generalize htr : rSet [] ⟨#[100]⟩ NN = tr at hsame hrl hcode
  replace hta := Lib.hid hta
  replace htr := Lib.hid htr
  replace hsame := Lib.hid hsame
  replace how := Lib.hid how
  replace h0 := Lib.hid h0
  replace hM := Lib.hid hM
  replace hN := Lib.hid hN
  replace hE := Lib.hid hE
  go_enter Tryd.func6, Tryd.ntmps6
  go_wp2_with fail
  refine (new_any _).mono ?_
  rintro e w1 ⟨tb, tm, rfl, hT, htb, htm, hO1⟩
  have hO2 := hO1.alloc (.cells #[.slice none 0 0] 52)
  have hA1 := (Own.refl [] w1).alloc (.cells #[.slice none 0 0] 52)
  have hT1 := hT.own hA1 (by simp) (by simp)
  have hX1 : RTab (w1.alloc (.cells #[.slice none 0 0] 52)) w1.heap.size (.slice none 0 0) [] := ⟨heap_alloc_new _ _, ⟨by simp [rowOf], .inl ⟨rfl, rfl⟩⟩, by simp [Value.ownBlock]⟩
  have S1 := set_any tb tm [] ⟨#[100]⟩ an NN.length cn (itAt NN) _ hT1 (hN.out.nil' hO2).itemRow (by simp)
  rw [itList_at, hta.out] at S1
  have htl := hT.lt
  replace S1 := Lib.hid S1
  replace hX1 := Lib.hid hX1
  replace hO2 := Lib.hid hO2
  clear hT hT1 hA1
  go_wp2_with fail
  refine S1.out.mono ?_
  rintro e w2 ⟨rfl, hT2, hO3⟩
  have hO4 : Own [] w w2 := hO2.out.trans' hO3 (by intro z hz; right; simp at hz; omega)
  have hX2 := hX1.out.own' hO3 (by simp; omega) (by simp [Value.ownBlock])
  have S2 := rset_any w1.heap.size (.slice none 0 0) [] ⟨#[100]⟩ an NN cn w2 hX2 (by simp) (hN.out.nil' hO4) (fun hp q hq => by
    obtain ⟨b, o, e1, hb, _⟩ := hN.out.2 hp
    rw [e1] at hq
    cases hq
    have := hO1.size
    show b ≠ w1.heap.size
    omega)
  rw [htr.out] at S2
  unfold RSetPost at S2
  have htn : tb ≠ w1.heap.size ∧ tm ≠ w1.heap.size := by omega
  have hsz1 := hO1.size
  replace S2 := Lib.hid S2
  replace hT2 := Lib.hid hT2
  replace hO4 := Lib.hid hO4
  clear S1 hX1 hX2 hO3 hO2 hO1
  go_wp2_with fail
  refine S2.out.mono ?_
  rintro e w3 ⟨rfl, v3, hX3, hO5, _⟩
  have hT3 := hT2.out.own hO5 (by simpa using htn.1) (by simpa using htn.2)
  have hO6 : Own [] w w3 := hO4.out.trans' hO5 (by intro z hz; right; simp at hz; omega)
  have U1 := updp_any a0 L c0 am M cm tb tm ta.2 ow w3 (h0.out.nil' hO6) (hM.out.nil' hO6) hT3 (by omega) (hE.out.nil hO6)
  have U2 := fun w4 (ho : Own [] w3 w4) => rupd_any a0 L c0 am M cm w1.heap.size v3 tr.2 ow w4 (h0.out.nil' (hO6.trans ho)) (hM.out.nil' (hO6.trans ho)) (hX3.nil' ho) (by omega) (by omega)
  rw [hsame.out] at U1
  generalize updGo (rFind tr.2 ow) M L = r at U1 U2 hcode
  obtain ⟨rc, X⟩ := r
  unfold Born2Post at U1 U2
  simp only at U1 U2 hcode
  replace U1 := Lib.hid U1
  replace U2 := Lib.hid U2
  replace hO6 := Lib.hid hO6
  clear hT3 hX3 hO5 hT2 S2 hO4
  have fin : ∀ (a7 a8 : Option Addr) (c7 c8 : Nat) (w8 : World), OutRow w3.heap.size w8 a7 c7 X → ItemsAt w8 a8 X → Own [] w w8 → Aside (Calls Tryd.prog 11 #[.slice a7 X.length c7, .slice a8 X.length c8] w8 (fun e w' => e = .returned (.bool true) ∧ Own [] w8 w') ∧ ∀ w9, Own [] w8 w9 → Calls Tryd.prog 14 #[] w9 (fun e w' => e = .returned (.bool true) ∧ Own [] w9 w')) := fun a7 a8 c7 c8 w8 h7 h8 ho => by
    have S := rsame_any a7 X c7 a8 X c8 w8 (h7.at_ (by omega)) h8
    rw [itSame_refl] at S
    exact ⟨S, fun w9 ho9 => awake_any w9 (hE.out.nil (ho.trans ho9))⟩
  replace fin := Lib.hid fin
  cases own
  all_goals
    have how2 := how.out
    simp only [Bool.false_eq_true, if_false, if_true] at how2
    subst how2
    go_wp2_with fail
    refine U1.out.mono ?_
    rintro e w4 ⟨a4, c4, rfl, hR4, hO7⟩
    have V2 := Lib.hid (U2.out w4 hO7)
    replace hR4 := Lib.hid hR4
    replace hO7 := Lib.hid hO7
    go_wp2_with fail
    refine V2.out.mono ?_
    rintro e w5 ⟨a5, c5, rfl, hR5, hO8⟩
    have hO9 := hO6.out.trans (hO7.out.trans hO8)
    obtain ⟨FS, FA⟩ := (fin.out a4 a5 c4 c5 w5 (hR4.out.nil' hO8) (hR5.at_ (by omega)) hO9)
    replace FS := Lib.hid FS
    replace FA := Lib.hid FA
    replace hO9 := Lib.hid hO9
    clear hR5 hO8
    go_wp2_with fail
    refine FS.out.mono ?_
    rintro e w6 ⟨rfl, hp1⟩
    replace hp1 := Lib.hid hp1
    go_wp2_with fail
    refine (FA.out _ hp1.out).mono ?_
    rintro e w7 ⟨rfl, hp2⟩
    replace hp2 := Lib.hid (hO9.out.trans (hp1.out.trans hp2))
    go_wp2_with fail
    go_ret
    exact ⟨rfl, hp2.out.below (Nat.le_refl _) (by simp)⟩
end Go.Proofs.YtggcfehghgpjmaaDoor
