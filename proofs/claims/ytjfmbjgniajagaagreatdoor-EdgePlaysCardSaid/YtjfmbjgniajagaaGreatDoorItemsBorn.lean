/- The items of a birth. -/
import Derived.Test.YtjfmbjgniajagaaGreatDoorItemsCode
import Derived.Maps.AppendAt
namespace Go.Proofs.YtjfmbjgniajagaaGreatDoor
open Go.RowKit

/-! ### plain -/
def bornGo : List Met → List Itm → Int × List Itm
  | [], out => (1, out)
  | m :: r, out => if m.name.toList.isEmpty then (7, []) else if (itIdx out m.name).isSome then (10, []) else bornGo r (out ++ [ofM m])
def bornL (M : List Met) : Int × List Itm := if 32 < M.length then (8, []) else bornGo M []
theorem bornGo_le : ∀ (M : List Met) (out : List Itm), (bornGo M out).2.length ≤ out.length + M.length
  | [], out => by simp [bornGo]
  | m :: r, out => by
    unfold bornGo
    split
    · simp
    · split
      · simp
      · have := bornGo_le r (out ++ [ofM m])
        simp at this ⊢
        omega
theorem bornL_le (M : List Met) : (bornL M).2.length ≤ 32 := by
  unfold bornL
  split
  · simp
  · have := bornGo_le M []
    simp at this
    omega

/-! ### a row of items of the call's own -/
theorem grown_row {w w' : World} {row : Option Nat} (h : w.grownBy w' row) : Own row.toList w w' :=
  ⟨h.os, h.tape, h.output, h.size, fun k hk hn => h.block k hk (by cases row with | none => simp | some g => simpa using hn)⟩
structure OutRow (B : Nat) (w : World) (a : Option Addr) (cap : Nat) (L : List Itm) : Prop where
  own : w.ownsRow 0 83 8 (.slice a L.length cap) L.length (rowOf Itm.cells L)
  fresh : ∀ q, a = some q → B ≤ q.block
  good : ∀ x ∈ L, x.wf
theorem OutRow.nil (B : Nat) (w : World) : OutRow B w none 0 [] := ⟨⟨by simp [rowOf], .inl ⟨rfl, rfl⟩⟩, by simp, by simp⟩
theorem OutRow.at_ {B : Nat} {w : World} {a : Option Addr} {cap : Nat} {L : List Itm} (h : OutRow B w a cap L) (hl : L.length ≤ 140737488351232) : ItemsAt w a L := RowsAt.of_owns h.own rfl Itm.cells_len hl h.good
theorem ownsRow_own {S : List Nat} {T : TypeId} {k base n : Nat} {w w' : World} {v : Value} {xs : List Value} (h : w.ownsRow base T k v n xs) (ho : Own S w w') (hS : ∀ b, v.ownBlock = some b → b ∉ S) : w'.ownsRow base T k v n xs := by
  obtain ⟨h1, h2⟩ := h
  refine ⟨h1, ?_⟩
  rcases h2 with h2 | ⟨g, cap, cur, rfl, hb, hg, h3⟩
  · exact .inl h2
  · exact .inr ⟨g, cap, cur, rfl, hb, ho.heap hg (hS g rfl), h3⟩
theorem OutRow.own' {S : List Nat} {B : Nat} {w w' : World} {a : Option Addr} {cap : Nat} {L : List Itm} (h : OutRow B w a cap L) (ho : Own S w w') (hS : ∀ b, a.map (·.block) = some b → b ∉ S) : OutRow B w' a cap L :=
  ⟨ownsRow_own h.own ho (fun b hb => hS b (by cases a with | none => cases hb | some q => simpa [Value.ownBlock] using hb)), h.fresh, h.good⟩
theorem OutRow.nil' {B : Nat} {w w' : World} {a : Option Addr} {cap : Nat} {L : List Itm} (h : OutRow B w a cap L) (ho : Own [] w w') : OutRow B w' a cap L := h.own' ho (by simp)
theorem OutRow.push {w0 w1 w4 : World} {a : Option Addr} {cap n : Nat} {L : List Itm} {x : Itm} {v2 : Value} (h : OutRow w0.heap.size w1 a cap L) (hx : x.wf) (hn : n = L.length) (hO : Own [] w0 w1)
    (hown2 : w4.ownsRow 0 83 8 v2 (n + 1) (rowOf Itm.cells L ++ x.cells)) (hgrow : w1.grownBy w4 (Value.slice a n cap).ownBlock) (hnil : v2 = .slice none 0 0 ↔ Value.slice a n cap = .slice none 0 0 ∧ 1 = 0)
    (hat : v2.ownBlock = (Value.slice a n cap).ownBlock ∨ v2.ownBlock = some w1.heap.size) :
    ∃ a' cap', v2 = .slice a' (n + 1) cap' ∧ OutRow w0.heap.size w4 a' cap' (L ++ [x]) ∧ Own [] w0 w4 := by
  subst hn
  have e : rowOf Itm.cells L ++ x.cells = rowOf Itm.cells (L ++ [x]) := by simp [rowOf]
  rw [e] at hown2
  have hl : L.length + 1 = (L ++ [x]).length := by simp
  obtain ⟨g, cap', he, hR⟩ := owned_row hown2 hl (fun e => by have := (hnil.1 e).2; omega)
  subst he
  have hO4 : Own [] w0 w4 := hO.trans' (grown_row hgrow) (by
    intro z hz
    right
    cases a with
    | none => simp [Value.ownBlock] at hz
    | some q => simp [Value.ownBlock] at hz; subst hz; exact h.fresh q rfl)
  refine ⟨_, cap', by rw [hl], ⟨hR.owns Itm.cells_len, ?_, ?_⟩, hO4⟩
  · intro q hq
    simp only [Option.some.injEq] at hq
    subst hq
    show w0.heap.size ≤ g
    have hs := hO.size
    cases a with
    | none => simp [Value.ownBlock] at hat; omega
    | some q =>
      have := h.fresh q rfl
      simp [Value.ownBlock] at hat
      omega
  · intro y hy
    rcases List.mem_append.1 hy with h1 | h1
    · exact h.good y h1
    · simp at h1; subst h1; exact hx
theorem itmInfo : (Tryz.prog.info? 83).map (fun i => (i.zero, i.size, i.bytes)) = some (some (.agg #[.string ⟨#[]⟩, .bool false, .int .u64 0, .int .u32 0, .bool false, .int .i64 0, .int .u64 0, .string ⟨#[]⟩]), 8, 72) := by kernel_rfl
theorem itm_one (x : Itm) : ∀ u ∈ x.cells, u.oneCell' = true := by
  intro u hu
  simp [Itm.cells] at hu
  rcases hu with rfl | rfl | rfl | rfl | rfl | rfl | rfl | rfl <;> rfl
theorem RowsAt.met {w : World} {a : Option Addr} {M : List Met} (h : MetsAt w a M) {k : Nat} (hk : k < M.length) : ∃ b o, a = some ⟨b, o, none⟩ ∧ b < w.heap.size ∧ M[k].wf ∧ ∀ j v, M[k].cells[j]? = some v → w.cell? ⟨b, o + k * 15 + j, none⟩ = some v := by
  obtain ⟨b, o, e, hb, hx⟩ := h.2 (by omega)
  exact ⟨b, o, e, hb, hx k _ (List.getElem?_eq_getElem hk)⟩
def At15 (w : World) (b q : Nat) (x : Met) : Prop := ∀ j v, x.cells[j]? = some v → w.cell? ⟨b, q + j, none⟩ = some v
theorem At15.own {S : List Nat} {w w' : World} {b q : Nat} {x : Met} (h : At15 w b q x) (ho : Own S w w') (hb : b < w.heap.size) (hS : b ∉ S) : At15 w' b q x := fun j v hj => (ho.cell (p := ⟨b, q + j, none⟩) hb hS).trans (h j v hj)

def BornPost (r : Int × List Itm) (w : World) (e : Ending) (w' : World) : Prop :=
  ∃ a cap er, e = .returned (.tuple #[.slice a r.2.length cap, er]) ∧ OutRow w.heap.size w' a cap r.2 ∧ Own [] w w' ∧
    ((r.1 = 1 ∧ er = .nilIface) ∨ ∃ q, er = .iface 160 (.pointer (some ⟨q, 0, none⟩)) ∧ w'.heap[q]? = some (.cells #[.int .i64 r.1] 164 (0, 0)))

set_option maxRecDepth 100000 in
set_option maxHeartbeats 8000000 in
theorem born_any (a : Option Addr) (M : List Met) (cap : Nat) (w : World) (h : MetsAt w a M) :
    Calls Tryz.prog 81 #[.slice a M.length cap] w (BornPost (bornL M) w) := by
  have hl := h.1
  obtain ⟨i0, hi, hz0, hz1, hz2⟩ := info_parts itmInfo
  unfold bornL
  by_cases hn : 32 < M.length
  · rw [if_pos hn]
    go_enter Tryz.func81, Tryz.ntmps81
    go_wp2_with fail
    refine (refuse_any _ _).mono ?_
    rintro e w2 ⟨q, rfl, hr, hO⟩
    replace hr := Lib.hid hr
    replace hO := Lib.hid hO
    go_wp2_with fail
    go_ret2
    exact ⟨none, 0, _, rfl, OutRow.nil _ _, hO.out, .inr ⟨_, rfl, hr.out⟩⟩
  · rw [if_neg hn]
    generalize hr : bornGo M [] = r
    replace hr := Lib.hid hr
    replace h := Lib.hid h
    go_enter Tryz.func81, Tryz.ntmps81
    go_wp2_with fail
    go_loopg [4, 13] M.length (fun g s4 s13 wr => ∃ (k : Nat) (oa : Option Addr) (oc : Nat) (L : List Itm), k ≤ M.length ∧ g = M.length - k ∧ s13 = .int .i64 k ∧ s4 = .slice oa k oc ∧ L.length = k ∧
      Aside (OutRow w.heap.size wr oa oc L ∧ Own [] w wr ∧ bornGo (M.drop k) L = r))
    case atStart => exact ⟨0, none, 0, [], by omega, by omega, rfl, rfl, rfl, OutRow.nil _ _, Own.refl _ _, hr.out⟩
    case round =>
      obtain ⟨k, oa, oc, L, hk, rfl, rfl, rfl, hL, hA⟩ := hrel
      obtain ⟨hR, hO, hG⟩ := hA
      by_cases hlt : k < M.length
      · obtain ⟨b, o, rfl, hb, hwf, hc⟩ := (h.out.nil' hO).met hlt
        rw [List.drop_eq_getElem_cons hlt] at hG
        generalize M[k] = x at hc hG hwf
        have hxw := ofM_wf hwf
        have hxn := ofM_name x
        have F := of_any x
        unfold OfPost at F
        generalize hy : ofM x = y at F hxw hxn hG
        replace hy := Lib.hid hy
        have hPl := itPlace_lt L x.name
        have hpi : itPlace L x.name = (match itIdx L x.name with | some i => (i : Int) | none => -1) := rfl
        have hP := fun (w1 : World) (hO1 : Own [] wr w1) (lb : Nat) (hc1 : w1.cell? ⟨lb, 0, none⟩ = some (.slice oa L.length oc)) => place_any oa L oc lb x.name w1 (((hR.nil' hO1).at_ (by omega))) hc1
        have hown := fun (w1 : World) (hO1 : Own [] wr w1) => (hR.nil' hO1).own
        rw [hL] at hP hown
        obtain ⟨nm, hs, al, ti, ty, hi_, tr, nu, ⟨x1, y1, z1⟩, ⟨x2, y2, z2⟩, vk, vn, vs, ⟨x3, y3, z3⟩, ⟨x4, y4, z4⟩⟩ := x
        have c0 := hc 0 _ rfl
        have c1 := hc 1 _ rfl
        have c2 := hc 2 _ rfl
        have c3 := hc 3 _ rfl
        have c4 := hc 4 _ rfl
        have c5 := hc 5 _ rfl
        have c6 := hc 6 _ rfl
        have c7 := hc 7 _ rfl
        have c8 := hc 8 _ rfl
        have c9 := hc 9 _ rfl
        have c10 := hc 10 _ rfl
        have c11 := hc 11 _ rfl
        have c12 := hc 12 _ rfl
        have c13 := hc 13 _ rfl
        have c14 := hc 14 _ rfl
        simp only [Nat.add_zero] at c0 c1 c2 c3 c4 c5 c6 c7 c8 c9 c10 c11 c12 c13 c14
        simp only at hPl hP hpi hG
        unfold bornGo at hG
        replace hG := Lib.hid hG
        have hOm := hO.alloc (.cells #[.string nm, .bool hs, .int .u64 al, .int .u64 ti, .int .u32 ty, .bool hi_, .bool tr, .bool nu, .slice x1 y1 z1, .slice x2 y2 z2, .int .i64 vk, .int .u64 vn, .string vs, .slice x3 y3 z3, .slice x4 y4 z4] 36)
        have hOm1 := (Own.refl [] wr).alloc (.cells #[.string nm, .bool hs, .int .u64 al, .int .u64 ti, .int .u32 ty, .bool hi_, .bool tr, .bool nu, .slice x1 y1 z1, .slice x2 y2 z2, .int .i64 vk, .int .u64 vn, .string vs, .slice x3 y3 z3, .slice x4 y4 z4] 36)
        have hBm := heap_alloc_new wr (.cells #[.string nm, .bool hs, .int .u64 al, .int .u64 ti, .int .u32 ty, .bool hi_, .bool tr, .bool nu, .slice x1 y1 z1, .slice x2 y2 z2, .int .i64 vk, .int .u64 vn, .string vs, .slice x3 y3 z3, .slice x4 y4 z4] 36)
        have hmsz := hO.size
        unfold Met.val Met.cells at F
        simp only at F
        replace F := Lib.hid F
        replace hP := Lib.hid hP
        replace hown := Lib.hid hown
        replace hR := Lib.hid hR
        replace hO := Lib.hid hO
        replace hOm := Lib.hid hOm
        replace hOm1 := Lib.hid hOm1
        replace hBm := Lib.hid hBm
        replace hL := Lib.hid hL
        replace hxn := Lib.hid hxn
        clear hc hwf
        by_cases hne : nm.toList.isEmpty = true
        · go_wp2_with fail
          refine (refuse_any _ _).mono ?_
          rintro e w2 ⟨q, rfl, hr2, hO2⟩
          have hr7 : r = (7, []) := by have := hG.out; rw [if_pos hne] at this; exact this.symm
          replace hr7 := Lib.hid hr7
          have hO3 := hOm.out.trans hO2
          replace hr2 := Lib.hid hr2
          replace hO3 := Lib.hid hO3
          clear hO2 c0 c1 c2 c3 c4 c5 c6 c7 c8 c9 c10 c11 c12 c13 c14
          go_wp2_with fail
          go_ret2
          rw [hr7.out]
          exact ⟨none, 0, _, rfl, OutRow.nil _ _, hO3.out, .inr ⟨_, rfl, hr2.out⟩⟩
        · have hne' : nm.toList.isEmpty = false := by simpa using hne
          replace hG := Lib.hid (by have := hG.out; rw [if_neg hne] at this; exact this)
          clear hne
          go_wp2_with fail
          refine (hP.out _ (hOm1.out.alloc _) _ (by simp)).mono ?_
          rintro e w2 ⟨rfl, hO2⟩
          have hO3 := (hOm.out.alloc (.cells #[.slice oa k oc] 42)).trans hO2
          have hO31 := (hOm1.out.alloc (.cells #[.slice oa k oc] 42)).trans hO2
          have hB3 := ((Own.refl [] _).alloc (.cells #[.slice oa k oc] 42)).trans hO2 |>.heap hBm.out (by simp)
          cases hidx : itIdx L nm with
          | some i =>
            have hpv : itPlace L nm = i := by rw [hpi, hidx]
            have hr10 : r = (10, []) := by have := hG.out; rw [hidx] at this; simpa using this.symm
            rw [hpv]
            replace hr10 := Lib.hid hr10
            replace hO3 := Lib.hid hO3
            clear hpv hpi hPl hG hidx hO31 hB3 hO2 c0 c1 c2 c3 c4 c5 c6 c7 c8 c9 c10 c11 c12 c13 c14
            go_wp2_with fail
            refine (refuse_any _ _).mono ?_
            rintro e w3 ⟨q, rfl, hr2, hO4⟩
            replace hr2 := Lib.hid hr2
            replace hO4 := Lib.hid (hO3.out.trans hO4)
            go_wp2_with fail
            go_ret2
            rw [hr10.out]
            exact ⟨none, 0, _, rfl, OutRow.nil _ _, hO4.out, .inr ⟨_, rfl, hr2.out⟩⟩
          | none =>
            have hpv : itPlace L nm = -1 := by rw [hpi, hidx]
            have hG2 : bornGo (M.drop (k + 1)) (L ++ [y]) = r := by have := hG.out; rw [hidx] at this; simpa [hy.out] using this
            rw [hpv]
            replace hG2 := Lib.hid hG2
            have d0 := blk_cell hB3 (j := 0) rfl
            have d1 := blk_cell hB3 (j := 1) rfl
            have d2 := blk_cell hB3 (j := 2) rfl
            have d3 := blk_cell hB3 (j := 3) rfl
            have d4 := blk_cell hB3 (j := 4) rfl
            have d5 := blk_cell hB3 (j := 5) rfl
            have d6 := blk_cell hB3 (j := 6) rfl
            have d7 := blk_cell hB3 (j := 7) rfl
            have d8 := blk_cell hB3 (j := 8) rfl
            have d9 := blk_cell hB3 (j := 9) rfl
            have d10 := blk_cell hB3 (j := 10) rfl
            have d11 := blk_cell hB3 (j := 11) rfl
            have d12 := blk_cell hB3 (j := 12) rfl
            have d13 := blk_cell hB3 (j := 13) rfl
            have d14 := blk_cell hB3 (j := 14) rfl
            replace hO3 := Lib.hid hO3
            replace hO31 := Lib.hid hO31
            clear hpv hpi hPl hG hidx hB3 hO2 c0 c1 c2 c3 c4 c5 c6 c7 c8 c9 c10 c11 c12 c13 c14
            go_wp2_with fail
            refine (F.out _).mono ?_
            rintro e w3 ⟨rfl, hO4⟩
            have hO5 := hO3.out.trans hO4
            have hO51 := hO31.out.trans hO4
            replace hO5 := Lib.hid hO5
            replace hO51 := Lib.hid hO51
            obtain ⟨nm', hs', al', ty', nu', vk', vn', vs'⟩ := y
            unfold Itm.val
            have hA1 := (Own.refl [] w3).alloc (.cells #[.string nm', .bool hs', .int .u64 al', .int .u32 ty', .bool nu', .int .i64 vk', .int .u64 vn', .string vs'] 83)
            have hownA := Lib.hid (hown.out _ (hO51.out.trans hA1))
            have hRA := Lib.hid (hR.out.nil' (hO51.out.trans hA1))
            have hOA := Lib.hid (hO5.out.trans hA1)
            have hnew := Lib.hid (World.news_of_block (heap_alloc_new w3 (.cells #[.string nm', .bool hs', .int .u64 al', .int .u32 ty', .bool nu', .int .i64 vk', .int .u64 vn', .string vs'] 83)))
            have hone := Lib.hid (itm_one ⟨nm', hs', al', ty', nu', vk', vn', vs'⟩)
            unfold Itm.cells
            clear d0 d1 d2 d3 d4 d5 d6 d7 d8 d9 d10 d11 d12 d13 d14 hO4 hA1 hO5 hO51 hO31 hO3
            go_wp2_with (at_builtin; refine wpList_append_own_at _ rfl (.tmp 30) (.tmp 33) 42 rfl 0 83 i0 _ 8 72 Tryz.underlying42 hi hz0 hz1 hz2 rfl (by omega) (.slice oa k oc) k (rowOf Itm.cells L) rfl hownA.out ⟨w3.heap.size, 0, none⟩ 1 1 [.string nm', .bool hs', .int .u64 al', .int .u32 ty', .bool nu', .int .i64 vk', .int .u64 vn', .string vs'] rfl rfl hnew.out hone.out (by unfold maxLen; omega) (by omega) (Nat.zero_le _) ?_; intro v2 w4 hown2 hgrow hnil hat; obtain ⟨a2, cap2, rfl, hR2, hO2⟩ := OutRow.push hRA.out hxw hL.out.symm hOA.out hown2 hgrow hnil hat; clear hown2 hgrow hnil hat; replace hR2 := Lib.hid hR2; replace hO2 := Lib.hid hO2)
            go_roundg (M.length - (k + 1))
            case measure => omega
            case rel => exact ⟨k + 1, a2, cap2, _, by omega, rfl, by go_num, rfl, by have := hL.out; simp [this], hR2.out, hO2.out, hG2.out⟩
      · obtain rfl : k = M.length := by omega
        rw [List.drop_eq_nil_of_le (Nat.le_refl _)] at hG
        have hr1 : r = (1, L) := by unfold bornGo at hG; exact hG.symm
        replace hr1 := Lib.hid hr1
        replace hR := Lib.hid hR
        replace hO := Lib.hid hO
        replace hL := Lib.hid hL
        clear hG
        go_wp2_with fail
        go_ret2
        rw [hr1.out]
        exact ⟨oa, oc, _, by simp only [hL.out]; rfl, hR.out, hO.out, .inl ⟨rfl, rfl⟩⟩
end Go.Proofs.YtjfmbjgniajagaaGreatDoor
