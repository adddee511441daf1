/- Package rate: Keys. -/
import Derived.Test.YtigkpcdlfjlehaaStrSort
import Derived.Test.YtigkpcdlfjlehaaRateTop
import Derived.Deep.LoopGhost
import Derived.Deep.QuietTactic
import Derived.BigQuiet
namespace Go.Proofs.Ytigkpcdlfjlehaa
open Go.RowKit Go.Sort Go.Lib Go.Shelf

def KeysPost (w : World) (l : RTab) (e : Ending) (w' : World) : Prop :=
  ∃ v ks, e = .returned v ∧ ks.Perm (l.map (·.1)) ∧ ks.Pairwise (fun x y => sless y x = false) ∧ Sl 9 sEnc 1 w.heap.size w' v ks ∧ Own [] w w'
set_option maxRecDepth 100000 in
set_option maxHeartbeats 4000000 in
theorem keys_any (rb : Nat) (gap : Int) (B : List Nat) (l : RTab) (w : World) (h : Rate w rb gap B l) :
    Calls Try.prog 16 #[.pointer (some ⟨rb, 0, none⟩)] w (KeysPost w l) := by
  obtain ⟨v, ms, hR, hp, _⟩ := h.at_
  have hlen : ms.length ≤ 8 := by have := hp.length_eq; have := h.len; simp [kv] at *; omega
  have c2 : w.cell? ⟨rb, 2, none⟩ = some (.bool true) := cell_of_row w rb 2 _ _ _ hR.row
  have c1 : w.cell? ⟨rb, 1, none⟩ = some v := cell_of_row w rb 1 _ _ _ hR.row
  have hno := Lib.hid (none_any rb w true c2)
  have hkeys : (ms.map (·.key)).Perm (l.map (·.1)) := by have := hp.map (·.1); rw [kv, List.map_map] at this; exact this
  have hcells : ∀ w', Own [] w w' → ∀ j, j < ms.length → ∃ g b, v = .slice (some ⟨g, 0, none⟩) ms.length (match v with | .slice _ _ c => c | _ => 0) ∧ w'.cell? ⟨g, j, none⟩ = some (.pointer (some ⟨b, 0, none⟩)) ∧ w'.cell? ⟨b, 0, none⟩ = some (.string (ms.getD j Mk.dflt).key) := by
    intro w' ho j hj
    have hR' := hR.nil ho
    obtain ⟨g, cap', cur, hv, hg, hn, hs, hc⟩ := hR'.marks.shape (by omega)
    have mj : ms.getD j Mk.dflt ∈ ms := by simp [List.getD, List.getElem?_eq_getElem hj]
    exact ⟨g, (ms.getD j Mk.dflt).blk, by rw [hv], (cell_of_row w' g j _ _ _ hg).trans (hc j hj), cell_of_row w' _ 0 _ _ _ (hR'.marks.marks _ mj).1⟩
  obtain ⟨a, cap, rfl⟩ := hR.marks.sl
  simp only at hcells
  replace hcells := Lib.hid hcells
  replace hkeys := Lib.hid hkeys
  clear h hR hp
  unfold KeysPost
  obtain ⟨wo, hwo⟩ : ∃ wo : World, wo = w := ⟨_, rfl⟩
  rw [← hwo] at c1 c2 hno hcells ⊢
  clear hwo w
  go_enter Try.func16, Try.ntmps16
  go_wp2_with fail
  refine hno.out.mono ?_
  rintro e w' ⟨rfl, rfl⟩
  go_wp2_with fail
  go_loopg [3, 13] ms.length (fun g s3 s13 wr => ∃ (k : Nat) (T : List ByteArray), k ≤ ms.length ∧ g = ms.length - k ∧ s13 = .int .i64 k ∧ Own [] wo wr ∧ Sl 9 sEnc 1 wo.heap.size wr s3 T ∧ Aside (T = (ms.map (·.key)).take k))
  case atStart => exact ⟨0, [], by omega, by omega, rfl, Own.refl _ _, Sl.nil _ _ _, (rfl : [] = List.take 0 _)⟩
  case round =>
    obtain ⟨k, T, hk, rfl, rfl, hO, hS, hT⟩ := hrel
    replace hT : T = (ms.map (·.key)).take k := hT
    by_cases hlt : k < ms.length
    · obtain ⟨g, b, hv, d0, d1⟩ := hcells.out wr hO k hlt
      simp only [Value.slice.injEq, and_true] at hv
      subst hv
      have hl2 : T.length ≤ 8 := by rw [hT]; simp; omega
      have hgd : T ++ [(ms.getD k Mk.dflt).key] = (ms.map (·.key)).take (k + 1) := by
        rw [hT, List.take_succ_eq_append_getElem (by simpa using hlt)]
        simp [List.getD, List.getElem?_eq_getElem hlt]
      generalize (ms.getD k Mk.dflt).key = x at *
      replace hgd := Lib.hid hgd
      obtain ⟨sa, cs, rfl⟩ := hS.sl
      clear hT
      generalize hT2 : T ++ [x] = T2 at hgd
      replace hT2 := Lib.hid hT2
      have hOb := hO.alloc (.cells #[.string x] 9)
      have hSb := hS.nil' ((Own.refl [] wr).alloc (.cells #[.string x] 9))
      have hRb := Reads.new (enc := sEnc) (T := 9) wr x 1
      replace hOb := Lib.hid hOb
      replace hO := Lib.hid hO
      clear hS
      go_wp2_with (at_builtin; refine wpList_append_new rfl (.tmp 17) (.tmp 22) rfl strElem hOb.out rfl hSb rfl hRb (by simp only [List.length_singleton]; omega) (by unfold maxLen; simp only [List.length_singleton]; omega) ?_; intro va wa hSa hOa _ _; rw [hT2.out] at hSa; obtain ⟨aa, ca, rfl⟩ := hSa.sl; replace hOa := Lib.hid hOa; replace hSa := Lib.hid hSa)
      go_roundg (ms.length - (k + 1))
      case measure => omega
      case rel => exact ⟨k + 1, T2, by omega, rfl, by go_num, hOa.out, hSa.out, hgd.out⟩
    · obtain rfl : k = ms.length := by omega
      rw [List.take_of_length_le (by simp)] at hT
      subst hT
      have hl2 : (ms.map (·.key)).length < 4611686018427387904 := by simp; omega
      generalize ms.map (·.key) = ks at *
      have ST := Lib.hid (sort_strs hS hl2)
      obtain ⟨sa, cs, rfl⟩ := hS.sl
      have hbs := fun g hg => (hS.block (g := g) hg).1
      replace hbs := Lib.hid hbs
      replace hO := Lib.hid hO
      clear hS
      go_wp2_with fail
      refine ST.out.mono ?_
      rintro e w2 ⟨rfl, l', hp, hpw, hS2, hO2⟩
      have hO3 := hO.out.trans' hO2 (fun x hx => .inr (hbs.out x (Option.mem_toList.1 hx)))
      have hF := Lib.hid (And.intro (hp.trans hkeys.out) (And.intro hpw (And.intro hS2 hO3)))
      clear hp hpw hS2 hO3 hO2 ST
      go_wp2_with fail
      go_ret
      exact ⟨_, l', rfl, hF.out⟩
end Go.Proofs.Ytigkpcdlfjlehaa
