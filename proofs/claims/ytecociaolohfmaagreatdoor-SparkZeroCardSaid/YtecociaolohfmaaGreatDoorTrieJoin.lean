/- Package level: Join. -/
import Derived.Test.YtecociaolohfmaaGreatDoorMatch
import Derived.Test.YtecociaolohfmaaGreatDoorReads
import Derived.Shelf.Strings.OnBuilder
namespace Go.Proofs.YtecociaolohfmaaGreatDoor
open Go.RowKit Go.Lib Go.Shelf

def joinB (xs : List ByteArray) : ByteArray := ⟨(Lib.join (xs.map (·.data.toList)) [47]).toArray⟩
theorem join_cons2 (x y : List UInt8) (t : List (List UInt8)) : Lib.join (x :: y :: t) [47] = x ++ 47 :: Lib.join (y :: t) [47] := by
  rw [Lib.join_cons, Lib.join_cons]
  unfold Lib.joinTail
  simp
theorem join_cut : ∀ l : List UInt8, Lib.join (cutL l) [47] = l
  | [] => by simp [cutL, Lib.join_one]
  | c :: r => by
    have ih := join_cut r
    rw [cutL_cons]
    by_cases h : c = 47
    · subst h
      rw [if_pos rfl]
      cases hr : cutL r with
      | nil => exact absurd hr (cutL_ne r)
      | cons y t => rw [join_cons2, ← hr, ih]; rfl
    · rw [if_neg h]
      cases hr : cutL r with
      | nil => exact absurd hr (cutL_ne r)
      | cons y t =>
        rw [hr] at ih
        simp only
        cases t with
        | nil => rw [Lib.join_one] at ih ⊢; rw [ih]
        | cons z u => rw [join_cons2] at ih ⊢; rw [List.cons_append, ih]
theorem join_levels (s : ByteArray) : joinB (levels s) = s := by
  unfold joinB levels
  have e : ((cutL s.toList).map mkB).map (fun x : ByteArray => x.data.toList) = cutL s.toList := by
    rw [List.map_map]
    conv => rhs; rw [← List.map_id (cutL s.toList)]
    refine List.map_congr_left fun x _ => ?_
    show (mkB x).data.toList = x
    unfold mkB; simp
  rw [e, join_cut]
  have := mkB_back s
  unfold mkB at this
  exact this
theorem levels_inj {a b : ByteArray} (h : levels a = levels b) : a = b := by rw [← join_levels a, h, join_levels]

theorem joinExtra : Builder.Extra Tryz.prog Tryz.laysJoin_ren where
  sizeBuilder := by kernel_rfl
  liesBuilder := by kernel_rfl
  t5 := Tryz.underlying5
  a5 := Tryz.isAgg5
  z5 := Tryz.sizeOf5
  v5 := Tryz.zeroValue5
  infoByte := by kernel_rfl
  cellsByte := by kernel_rfl
  sizeByte := by kernel_rfl
  neB5 := by decide
set_option maxRecDepth 100000 in
set_option maxHeartbeats 4000000 in
theorem join_any (xs : List ByteArray) (v : Value) (w : World) (h : Reads lEnc w v xs) (hc : CapOk v) (hl : xs.length ≤ 1000) (hs : (joinB xs).size ≤ 1000) :
    Calls Tryz.prog 57 #[v] w fun e w' => e = .returned (.string (joinB xs)) ∧ Own [] w w' := by
  have hJ : Calls Tryz.prog 95 #[v, .string ⟨#[47]⟩] w fun e w' => e = .returned (.string (joinB xs)) ∧ Own [] w w' := by
    rcases h with ⟨rfl, rfl⟩ | ⟨b, o, c, rfl, hR⟩
    · refine (Any.strings_Join_none Tryz.laysJoin joinExtra none 0 ⟨#[47]⟩ w).mono ?_
      rintro e w' ⟨rfl, rfl⟩
      exact ⟨rfl, Own.refl _ _⟩
    · by_cases hx : xs = []
      · subst hx
        refine (Any.strings_Join_none Tryz.laysJoin joinExtra _ c ⟨#[47]⟩ w).mono ?_
        rintro e w' ⟨rfl, rfl⟩
        exact ⟨rfl, Own.refl _ _⟩
      · have hcells : ∀ (j : Nat) x, xs[j]? = some x → w.cell? ⟨b, o + j, none⟩ = some (.string x) := fun j x hj => by
          refine hR j _ ?_
          have := rowOf_get lEnc_len xs j 0 x hj (by omega)
          simpa [lEnc] using this
        have hpos : 0 < xs.length := List.length_pos_iff.2 hx
        have hbk : b < w.heap.size := block_lt_of_cell (hcells 0 xs[0] (List.getElem?_eq_getElem hpos))
        refine (Any.strings_Join Tryz.laysJoin joinExtra b o c xs ⟨#[47]⟩ w hcells hbk (by omega) (hc _ _ _ rfl) ?_).mono ?_
        · have : (joinB xs).size = (Lib.join (xs.map (·.data.toList)) [47]).length := by unfold joinB; rfl
          show (Lib.join (xs.map (·.data.toList)) [47]).length ≤ _
          omega
        · rintro e w' ⟨rfl, hb⟩
          exact ⟨rfl, Own.of_below hb (Nat.le_refl _)⟩
  replace hJ := Lib.hid hJ
  obtain ⟨a, cp, rfl⟩ := h.form
  clear h hc hs
  go_enter Tryz.func57, Tryz.ntmps57
  go_wp2_with (go_at_call 95; refine hJ.out.mono ?_; rintro e w2 ⟨rfl, hO2⟩; replace hO2 := Lib.hid hO2)
  go_ret
  exact ⟨rfl, hO2.out⟩
end Go.Proofs.YtecociaolohfmaaGreatDoor
