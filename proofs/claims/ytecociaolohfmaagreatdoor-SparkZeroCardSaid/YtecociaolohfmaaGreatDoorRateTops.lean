/- The rate (chapter 35) as other chapters use it: Ask alone (the head of RateTop). -/
/- Package rate: Ask, Last, Len, New; the law's own little run. -/
import Derived.Test.YtecociaolohfmaaGreatDoorRateApi
namespace Go.Proofs.YtecociaolohfmaaGreatDoor
open Go.RowKit
def rAsk (l : RTab) (gap : Int) (key : ByteArray) (now : Int) : RTab := if rMay l gap key now then (key, now) :: aDel l key else l
def AskPost (w : World) (rb : Nat) (gap : Int) (B : List Nat) (l : RTab) (key : ByteArray) (now : Int) (e : Ending) (w' : World) : Prop :=
  e = .returned (.bool (rMay l gap key now)) ∧ ∃ B', Rate w' rb gap B' (rAsk l gap key now) ∧ Own B w w' ∧ ∀ x ∈ B', x ∈ B ∨ w.heap.size ≤ x

theorem aDel_nodup {l : RTab} (h : (l.map (·.1)).Nodup) (key : ByteArray) : ((aDel l key).map (·.1)).Nodup ∧ key ∉ (aDel l key).map (·.1) := by
  refine ⟨((List.filter_sublist (l := l)).map _).nodup h, ?_⟩
  intro hm
  obtain ⟨p, hp, rfl⟩ := List.mem_map.1 hm
  have := (List.mem_filter.1 hp).2
  simp at this
theorem aDel_len (l : RTab) (key : ByteArray) : (aDel l key).length ≤ l.length := List.length_filter_le _ _
theorem aDel_len_lt {l : RTab} {key : ByteArray} {t : Int} (h : aGet l key = some t) : (aDel l key).length < l.length := by
  have hm := aGet_mem h
  unfold aDel
  rcases Nat.lt_or_ge (l.filter fun p => !(p.1 == key)).length l.length with h1 | h1
  · exact h1
  · have h2 := List.length_filter_le (fun p : ByteArray × Int => !(p.1 == key)) l
    have h3 := List.length_filter_eq_length_iff.1 (by omega : (l.filter fun p => !(p.1 == key)).length = l.length)
    have := h3 _ hm
    simp at this
theorem aDel_none {l : RTab} {key : ByteArray} (h : aGet l key = none) : aDel l key = l := by
  unfold aDel
  rw [List.filter_eq_self]
  intro p hp
  have := (aGet_none_iff l key).1 h p hp
  simpa using this
theorem kv_erase {ms : List Mk} {key : ByteArray} {i : Nat} (h : rFind ms key = some i) (hn : ((kv ms).map (·.1)).Nodup) : kv (ms.eraseIdx i) = aDel (kv ms) key := by
  have h1 : (kv ms).findIdx? (fun p => p.1 == key) = some i := by
    unfold kv; rw [List.findIdx?_map]; exact h
  unfold aDel
  rw [← eraseIdx_filter (fun p : ByteArray × Int => p.1 == key) (kv ms) i ?_ h1]
  · unfold kv; rw [ChangeMaps.map_eraseIdx]
  · rw [List.Nodup, List.pairwise_map] at hn
    exact hn.imp fun hne ⟨q1, q2⟩ => hne ((LawfulBEq.eq_of_beq q1).trans (LawfulBEq.eq_of_beq q2).symm)

set_option maxHeartbeats 1000000 in
theorem ask_any (rb : Nat) (gap : Int) (B : List Nat) (l : RTab) (key : ByteArray) (now : Int) (w : World) (h : Rate w rb gap B l) :
    Calls Tryz.prog 67 #[.pointer (some ⟨rb, 0, none⟩), .string key, .int .i64 now] w (AskPost w rb gap B l key now) := by
  have M := Lib.hid (may_any rb gap B l key now w h)
  obtain ⟨v, ms, hR, hp, hrbB, hvB, hxB⟩ := h.at_
  have hlen : ms.length ≤ 8 := by have := hp.length_eq; have := h.len; simp [kv] at *; omega
  unfold AskPost rAsk
  cases hm : rMay l gap key now with
  | false =>
    rw [hm] at M
    have hN := Lib.hid (fun w2 (ho : Own [] w w2) => h.nil ho)
    clear hR hp hm h
    go_enter Tryz.func67, Tryz.ntmps67
    go_wp2_with fail
    refine M.out.mono ?_
    rintro e w2 ⟨rfl, hO2⟩
    go_wp2_with fail
    go_ret
    exact ⟨rfl, B, hN.out _ hO2, hO2.nil, fun x hx => .inl hx⟩
  | true =>
    rw [hm] at M
    simp only [if_true]
    have hnow : 0 ≤ now ∧ now ≤ 1073741824 := by
      unfold rMay at hm
      have := (Bool.and_eq_true_iff.1 hm).1
      simpa [timedB] using this
    have hkn := kv_nodup hp h.nd
    have hg : aGet l key = aGet (kv ms) key := (aGet_perm hp hkn key).symm
    have hlk : (kv ms).length = l.length := hp.length_eq
    have hndl := aDel_nodup h.nd key
    -- the last step: a mark is laid and pushed
    have hpush : ∀ w2 v2 ms2, RateAt w2 rb gap v2 ms2 → (kv ms2).Perm (aDel l key) → (aDel l key).length < 8 → (v2.ownBlock = v.ownBlock) → (∀ x ∈ ms2, x ∈ ms) → Own B w w2 →
        Calls Tryz.prog 112 #[.iface 200 (.pointer (some ⟨rb, 1, none⟩)), .iface 205 (.pointer (some ⟨w2.heap.size, 0, none⟩))] (w2.alloc (.cells #[.string key, .int .i64 now] 207)) fun e w3 =>
          e = .returned (.tuple #[]) ∧ ∃ B', Rate w3 rb gap B' ((key, now) :: aDel l key) ∧ Own B w w3 ∧ ∀ x ∈ B', x ∈ B ∨ w.heap.size ≤ x := by
      intro w2 v2 ms2 hR2 hp2 hl2 hv2 hsub hO2
      have hA := (Own.refl [] w2).alloc (.cells #[.string key, .int .i64 now] 207)
      have hR3 := hR2.nil hA
      have hrl := lt_of_heap hR2.row
      have hms2 : ms2.length < 8 := by have := hp2.length_eq; simp [kv] at this; omega
      have hvl : ∀ g, v2.ownBlock = some g → g < w2.heap.size := by
        intro g hgv
        obtain ⟨_, ⟨q1, _⟩ | ⟨g', cap', cur', q3, _, q5, _⟩⟩ := hR2.marks.own
        · rw [q1] at hgv; simp [Value.ownBlock] at hgv
        · rw [q3] at hgv; simp [Value.ownBlock] at hgv; subst hgv; exact lt_of_heap q5
      refine (hpush_any rb gap v2 ms2 ⟨w2.heap.size, key, now⟩ _ hR3 (by omega) (heap_alloc_new _ _) hnow (by simp; omega) (fun e => absurd (hvl _ e) (Nat.lt_irrefl _))).mono ?_
      rintro e w3 ⟨v3, ms3, rfl, hR4, hp3, hv3, hO3⟩
      have hsz := hO2.size
      refine ⟨rfl, w2.heap.size :: rb :: (v3.ownBlock.toList ++ ms2.map (·.blk)), ⟨by simp; omega, ?_, h.gp, v3, ms3, hR4, ?_, by simp, fun g hg => by simp [hg], fun x hx => ?_⟩, ?_, ?_⟩
      · simp only [List.map_cons, List.nodup_cons]
        exact ⟨hndl.2, hndl.1⟩
      · have h1 : (kv ms3).Perm (kv (ms2 ++ [⟨w2.heap.size, key, now⟩])) := hp3.map _
        refine h1.trans ?_
        simp only [kv, List.map_append, List.map_cons, List.map_nil]
        exact (List.perm_append_singleton _ _).trans (hp2.cons _)
      · rcases List.mem_append.1 (hp3.mem_iff.1 hx) with h1 | h1
        · simp only [List.mem_cons, List.mem_append, List.mem_map]; exact .inr (.inr (.inr ⟨x, h1, rfl⟩))
        · rw [List.mem_singleton.1 h1]; simp
      · refine ((hO2.trans hA.nil)).trans' hO3 ?_
        intro x hx
        rcases List.mem_cons.1 hx with rfl | hx
        · exact .inl hrbB
        · simp only [Option.mem_toList] at hx
          exact .inl (hvB x (by rw [← hv2]; exact hx))
      · intro x hx
        simp only [List.mem_cons, List.mem_append, List.mem_map, Option.mem_toList] at hx
        rcases hx with rfl | rfl | hx | ⟨y, hy, rfl⟩
        · exact .inr hsz
        · exact .inl hrbB
        · rcases hv3 with h1 | ⟨g', h1, h2⟩
          · exact .inl (hvB x (by rw [← hv2, ← h1]; exact hx))
          · rw [h1] at hx
            obtain rfl : g' = x := by simpa using hx
            simp at h2
            exact .inr (by omega)
        · exact .inl (hxB y (hsub y hy))
    have F : ∀ w2, Own [] w w2 → _ := fun w2 ho => find_any rb gap v ms key w2 (hR.nil ho) (by omega)
    unfold rIdx at F
    cases hf : rFind ms key with
    | none =>
      rw [hf] at F
      have hgn : aGet l key = none := by rw [hg, aGet_kv, hf]; rfl
      have hl8 : l.length < 8 := by
        unfold rMay at hm
        rw [hgn] at hm
        simpa using (Bool.and_eq_true_iff.1 hm).2
      have P := fun w2 (ho : Own [] w w2) => hpush w2 v ms (hR.nil ho) (by rw [aDel_none hgn]; exact hp) (by rw [aDel_none hgn]; exact hl8) rfl (fun x hx => hx) ho.nil
      replace P := Lib.hid P
      replace F := Lib.hid F
      clear hpush hR hp hf hg hm h hkn hlk hndl hgn hrbB hvB hxB
      go_enter Tryz.func67, Tryz.ntmps67
      go_wp2_with fail
      refine M.out.mono ?_
      rintro e w2 ⟨rfl, hO2⟩
      go_wp2_with fail
      refine (F.out w2 hO2).mono ?_
      rintro e w3 ⟨rfl, hO3⟩
      go_wp2_with fail
      refine (P.out w3 (hO2.trans hO3)).mono ?_
      rintro e w4 ⟨rfl, hB⟩
      go_wp2_with fail
      go_ret
      exact ⟨rfl, hB⟩
    | some i =>
      rw [hf] at F
      have hi := (rFind_lt hf).1
      have hgs : aGet l key = some (ms.getD i Mk.dflt).at_ := by rw [hg, aGet_kv, hf]; rfl
      have hdl := aDel_len_lt hgs
      have hl8 := h.len
      have hke := kv_erase hf hkn
      have R := fun w2 (ho : Own [] w w2) => remove_any rb gap v ms i w2 (hR.nil ho) hi (by omega)
      have P : ∀ w2 w3 v3 ms3, Own [] w w2 → RateAt w3 rb gap v3 ms3 → ms3.Perm (ms.eraseIdx i) → v3.ownBlock = v.ownBlock → Own (rb :: v.ownBlock.toList) w2 w3 → _ :=
        fun w2 w3 v3 ms3 ho h3 hp3 hv3 ho3 => hpush w3 v3 ms3 h3 (((hp3.map _).trans (by
          show (kv (ms.eraseIdx i)).Perm _
          rw [hke]; exact hp.filter _))) (by omega) hv3 (fun x hx => List.mem_of_mem_eraseIdx (hp3.mem_iff.1 hx)) ((ho.nil (S := B)).trans' ho3 (by
            intro x hx
            rcases List.mem_cons.1 hx with rfl | hx
            · exact .inl hrbB
            · exact .inl (hvB x (by simpa using hx))))
      have hib : (0 : Int) ≤ i := by omega
      replace P := Lib.hid P
      replace F := Lib.hid F
      replace R := Lib.hid R
      clear hpush hR hp hf hg hm h hkn hlk hndl hgs hrbB hvB hxB hke hdl
      go_enter Tryz.func67, Tryz.ntmps67
      go_wp2_with fail
      refine M.out.mono ?_
      rintro e w2 ⟨rfl, hO2⟩
      go_wp2_with fail
      refine (F.out w2 hO2).mono ?_
      rintro e w3 ⟨rfl, hO3⟩
      go_wp2_with fail
      refine (R.out w3 (hO2.trans hO3)).mono ?_
      rintro e w4 ⟨v4, ms4, x4, rfl, hR4, hp4, hv4, hO4⟩
      go_wp2_with fail
      refine (P.out w3 w4 v4 ms4 (hO2.trans hO3) hR4 hp4 hv4 hO4).mono ?_
      rintro e w5 ⟨rfl, hB⟩
      go_wp2_with fail
      go_ret
      exact ⟨rfl, hB⟩

end Go.Proofs.YtecociaolohfmaaGreatDoor
