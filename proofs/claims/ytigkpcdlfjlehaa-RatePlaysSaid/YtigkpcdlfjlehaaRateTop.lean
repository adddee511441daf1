/- Package rate: Ask, Last, Len, New; the law's own little run. -/
import Derived.Test.YtigkpcdlfjlehaaRateApi
namespace Go.Proofs.Ytigkpcdlfjlehaa
open Go.RowKit
def rAsk (l : RTab) (gap : Int) (key : ByteArray) (now : Int) : RTab := if rMay l gap key now then (key, now) :: aDel l key else l
def AskPost (w : World) (rb : Nat) (gap : Int) (B : List Nat) (l : RTab) (key : ByteArray) (now : Int) (e : Ending) (w' : World) : Prop :=
  e = .returned (.bool (rMay l gap key now)) ∧ ∃ B', Rate w' rb gap B' (rAsk l gap key now) ∧ Own B w w' ∧ ∀ x ∈ B', x ∈ B ∨ w.heap.size ≤ x

theorem aDel_nodup {l : RTab} (h : (l.map (·.1)).Nodup) (key : ByteArray) : ((aDel l key).map (·.1)).Nodup ∧ key ∉ (aDel l key).map (·.1) := by
  refine ⟨((List.filter_sublist (l := l)).map _).nodup h, ?_⟩
  intro hm
  obtain ⟨p, hp, rfl⟩ := List.mem_map.1 hm
  have := (List.mem_filter.1 hp).2
  simp at this
theorem aDel_len (l : RTab) (key : ByteArray) : (aDel l key).length ≤ l.length := List.length_filter_le _ _
theorem aDel_len_lt {l : RTab} {key : ByteArray} {t : Int} (h : aGet l key = some t) : (aDel l key).length < l.length := by
  have hm := aGet_mem h
  unfold aDel
  rcases Nat.lt_or_ge (l.filter fun p => !(p.1 == key)).length l.length with h1 | h1
  · exact h1
  · have h2 := List.length_filter_le (fun p : ByteArray × Int => !(p.1 == key)) l
    have h3 := List.length_filter_eq_length_iff.1 (by omega : (l.filter fun p => !(p.1 == key)).length = l.length)
    have := h3 _ hm
    simp at this
theorem aDel_none {l : RTab} {key : ByteArray} (h : aGet l key = none) : aDel l key = l := by
  unfold aDel
  rw [List.filter_eq_self]
  intro p hp
  have := (aGet_none_iff l key).1 h p hp
  simpa using this
theorem kv_erase {ms : List Mk} {key : ByteArray} {i : Nat} (h : rFind ms key = some i) (hn : ((kv ms).map (·.1)).Nodup) : kv (ms.eraseIdx i) = aDel (kv ms) key := by
  have h1 : (kv ms).findIdx? (fun p => p.1 == key) = some i := by
    unfold kv; rw [List.findIdx?_map]; exact h
  unfold aDel
  rw [← eraseIdx_filter (fun p : ByteArray × Int => p.1 == key) (kv ms) i ?_ h1]
  · unfold kv; rw [ChangeMaps.map_eraseIdx]
  · rw [List.Nodup, List.pairwise_map] at hn
    exact hn.imp fun hne ⟨q1, q2⟩ => hne ((LawfulBEq.eq_of_beq q1).trans (LawfulBEq.eq_of_beq q2).symm)

set_option maxHeartbeats 1000000 in
theorem ask_any (rb : Nat) (gap : Int) (B : List Nat) (l : RTab) (key : ByteArray) (now : Int) (w : World) (h : Rate w rb gap B l) :
    Calls Try.prog 8 #[.pointer (some ⟨rb, 0, none⟩), .string key, .int .i64 now] w (AskPost w rb gap B l key now) := by
  have M := Lib.hid (may_any rb gap B l key now w h)
  obtain ⟨v, ms, hR, hp, hrbB, hvB, hxB⟩ := h.at_
  have hlen : ms.length ≤ 8 := by have := hp.length_eq; have := h.len; simp [kv] at *; omega
  unfold AskPost rAsk
  cases hm : rMay l gap key now with
  | false =>
    rw [hm] at M
    have hN := Lib.hid (fun w2 (ho : Own [] w w2) => h.nil ho)
    clear hR hp hm h
    go_enter Try.func8, Try.ntmps8
    go_wp2_with fail
    refine M.out.mono ?_
    rintro e w2 ⟨rfl, hO2⟩
    go_wp2_with fail
    go_ret
    exact ⟨rfl, B, hN.out _ hO2, hO2.nil, fun x hx => .inl hx⟩
  | true =>
    rw [hm] at M
    simp only [if_true]
    have hnow : 0 ≤ now ∧ now ≤ 1073741824 := by
      unfold rMay at hm
      have := (Bool.and_eq_true_iff.1 hm).1
      simpa [timedB] using this
    have hkn := kv_nodup hp h.nd
    have hg : aGet l key = aGet (kv ms) key := (aGet_perm hp hkn key).symm
    have hlk : (kv ms).length = l.length := hp.length_eq
    have hndl := aDel_nodup h.nd key
    -- the last step: a mark is laid and pushed
    have hpush : ∀ w2 v2 ms2, RateAt w2 rb gap v2 ms2 → (kv ms2).Perm (aDel l key) → (aDel l key).length < 8 → (v2.ownBlock = v.ownBlock) → (∀ x ∈ ms2, x ∈ ms) → Own B w w2 →
        Calls Try.prog 21 #[.iface 54 (.pointer (some ⟨rb, 1, none⟩)), .iface 60 (.pointer (some ⟨w2.heap.size, 0, none⟩))] (w2.alloc (.cells #[.string key, .int .i64 now] 62)) fun e w3 =>
          e = .returned (.tuple #[]) ∧ ∃ B', Rate w3 rb gap B' ((key, now) :: aDel l key) ∧ Own B w w3 ∧ ∀ x ∈ B', x ∈ B ∨ w.heap.size ≤ x := by
      intro w2 v2 ms2 hR2 hp2 hl2 hv2 hsub hO2
      have hA := (Own.refl [] w2).alloc (.cells #[.string key, .int .i64 now] 62)
      have hR3 := hR2.nil hA
      have hrl := lt_of_heap hR2.row
      have hms2 : ms2.length < 8 := by have := hp2.length_eq; simp [kv] at this; omega
      have hvl : ∀ g, v2.ownBlock = some g → g < w2.heap.size := by
        intro g hgv
        obtain ⟨_, ⟨q1, _⟩ | ⟨g', cap', cur', q3, _, q5, _⟩⟩ := hR2.marks.own
        · rw [q1] at hgv; simp [Value.ownBlock] at hgv
        · rw [q3] at hgv; simp [Value.ownBlock] at hgv; subst hgv; exact lt_of_heap q5
      refine (hpush_any rb gap v2 ms2 ⟨w2.heap.size, key, now⟩ _ hR3 (by omega) (heap_alloc_new _ _) hnow (by simp; omega) (fun e => absurd (hvl _ e) (Nat.lt_irrefl _))).mono ?_
      rintro e w3 ⟨v3, ms3, rfl, hR4, hp3, hv3, hO3⟩
      have hsz := hO2.size
      refine ⟨rfl, w2.heap.size :: rb :: (v3.ownBlock.toList ++ ms2.map (·.blk)), ⟨by simp; omega, ?_, h.gp, v3, ms3, hR4, ?_, by simp, fun g hg => by simp [hg], fun x hx => ?_⟩, ?_, ?_⟩
      · simp only [List.map_cons, List.nodup_cons]
        exact ⟨hndl.2, hndl.1⟩
      · have h1 : (kv ms3).Perm (kv (ms2 ++ [⟨w2.heap.size, key, now⟩])) := hp3.map _
        refine h1.trans ?_
        simp only [kv, List.map_append, List.map_cons, List.map_nil]
        exact (List.perm_append_singleton _ _).trans (hp2.cons _)
      · rcases List.mem_append.1 (hp3.mem_iff.1 hx) with h1 | h1
        · simp only [List.mem_cons, List.mem_append, List.mem_map]; exact .inr (.inr (.inr ⟨x, h1, rfl⟩))
        · rw [List.mem_singleton.1 h1]; simp
      · refine ((hO2.trans hA.nil)).trans' hO3 ?_
        intro x hx
        rcases List.mem_cons.1 hx with rfl | hx
        · exact .inl hrbB
        · simp only [Option.mem_toList] at hx
          exact .inl (hvB x (by rw [← hv2]; exact hx))
      · intro x hx
        simp only [List.mem_cons, List.mem_append, List.mem_map, Option.mem_toList] at hx
        rcases hx with rfl | rfl | hx | ⟨y, hy, rfl⟩
        · exact .inr hsz
        · exact .inl hrbB
        · rcases hv3 with h1 | ⟨g', h1, h2⟩
          · exact .inl (hvB x (by rw [← hv2, ← h1]; exact hx))
          · rw [h1] at hx
            obtain rfl : g' = x := by simpa using hx
            simp at h2
            exact .inr (by omega)
        · exact .inl (hxB y (hsub y hy))
    have F : ∀ w2, Own [] w w2 → _ := fun w2 ho => find_any rb gap v ms key w2 (hR.nil ho) (by omega)
    unfold rIdx at F
    cases hf : rFind ms key with
    | none =>
      rw [hf] at F
      have hgn : aGet l key = none := by rw [hg, aGet_kv, hf]; rfl
      have hl8 : l.length < 8 := by
        unfold rMay at hm
        rw [hgn] at hm
        simpa using (Bool.and_eq_true_iff.1 hm).2
      have P := fun w2 (ho : Own [] w w2) => hpush w2 v ms (hR.nil ho) (by rw [aDel_none hgn]; exact hp) (by rw [aDel_none hgn]; exact hl8) rfl (fun x hx => hx) ho.nil
      replace P := Lib.hid P
      replace F := Lib.hid F
      clear hpush hR hp hf hg hm h hkn hlk hndl hgn hrbB hvB hxB
      go_enter Try.func8, Try.ntmps8
      go_wp2_with fail
      refine M.out.mono ?_
      rintro e w2 ⟨rfl, hO2⟩
      go_wp2_with fail
      refine (F.out w2 hO2).mono ?_
      rintro e w3 ⟨rfl, hO3⟩
      go_wp2_with fail
      refine (P.out w3 (hO2.trans hO3)).mono ?_
      rintro e w4 ⟨rfl, hB⟩
      go_wp2_with fail
      go_ret
      exact ⟨rfl, hB⟩
    | some i =>
      rw [hf] at F
      have hi := (rFind_lt hf).1
      have hgs : aGet l key = some (ms.getD i Mk.dflt).at_ := by rw [hg, aGet_kv, hf]; rfl
      have hdl := aDel_len_lt hgs
      have hl8 := h.len
      have hke := kv_erase hf hkn
      have R := fun w2 (ho : Own [] w w2) => remove_any rb gap v ms i w2 (hR.nil ho) hi (by omega)
      have P : ∀ w2 w3 v3 ms3, Own [] w w2 → RateAt w3 rb gap v3 ms3 → ms3.Perm (ms.eraseIdx i) → v3.ownBlock = v.ownBlock → Own (rb :: v.ownBlock.toList) w2 w3 → _ :=
        fun w2 w3 v3 ms3 ho h3 hp3 hv3 ho3 => hpush w3 v3 ms3 h3 (((hp3.map _).trans (by
          show (kv (ms.eraseIdx i)).Perm _
          rw [hke]; exact hp.filter _))) (by omega) hv3 (fun x hx => List.mem_of_mem_eraseIdx (hp3.mem_iff.1 hx)) ((ho.nil (S := B)).trans' ho3 (by
            intro x hx
            rcases List.mem_cons.1 hx with rfl | hx
            · exact .inl hrbB
            · exact .inl (hvB x (by simpa using hx))))
      have hib : (0 : Int) ≤ i := by omega
      replace P := Lib.hid P
      replace F := Lib.hid F
      replace R := Lib.hid R
      clear hpush hR hp hf hg hm h hkn hlk hndl hgs hrbB hvB hxB hke hdl
      go_enter Try.func8, Try.ntmps8
      go_wp2_with fail
      refine M.out.mono ?_
      rintro e w2 ⟨rfl, hO2⟩
      go_wp2_with fail
      refine (F.out w2 hO2).mono ?_
      rintro e w3 ⟨rfl, hO3⟩
      go_wp2_with fail
      refine (R.out w3 (hO2.trans hO3)).mono ?_
      rintro e w4 ⟨v4, ms4, x4, rfl, hR4, hp4, hv4, hO4⟩
      go_wp2_with fail
      refine (P.out w3 w4 v4 ms4 (hO2.trans hO3) hR4 hp4 hv4 hO4).mono ?_
      rintro e w5 ⟨rfl, hB⟩
      go_wp2_with fail
      go_ret
      exact ⟨rfl, hB⟩

theorem last_any (rb : Nat) (gap : Int) (B : List Nat) (l : RTab) (key : ByteArray) (w : World) (h : Rate w rb gap B l) :
    Calls Try.prog 9 #[.pointer (some ⟨rb, 0, none⟩), .string key] w fun e w' =>
      e = .returned (.tuple #[.int .i64 ((aGet l key).getD 0), .bool (aGet l key).isSome]) ∧ Own [] w w' := by
  obtain ⟨v, ms, hR, hp, _⟩ := h.at_
  have hlen : ms.length ≤ 8 := by have := hp.length_eq; have := h.len; simp [kv] at *; omega
  have c2 : w.cell? ⟨rb, 2, none⟩ = some (.bool true) := cell_of_row w rb 2 _ _ _ hR.row
  have hno := Lib.hid (none_any rb w true c2)
  have hg : aGet l key = aGet (kv ms) key := (aGet_perm hp (kv_nodup hp h.nd) key).symm
  rw [hg, aGet_kv]
  have F := find_any rb gap v ms key w hR (by omega)
  unfold rIdx at F
  cases hf : rFind ms key with
  | none =>
    rw [hf] at F
    replace F := Lib.hid F
    simp only [Option.map_none, Option.getD_none, Option.isSome_none]
    clear hR hp hf hg h
    go_enter Try.func9, Try.ntmps9
    go_wp2_with fail
    refine hno.out.mono ?_
    rintro e w' ⟨rfl, rfl⟩
    go_wp2_with fail
    refine F.out.mono ?_
    rintro e w2 ⟨rfl, hO2⟩
    go_wp2_with fail
    go_ret2
    exact ⟨rfl, hO2⟩
  | some i =>
    rw [hf] at F
    replace F := Lib.hid F
    obtain ⟨hi, hkey⟩ := rFind_lt hf
    have hK : ∀ w', Own [] w w' → ∃ g cap, v = .slice (some ⟨g, 0, none⟩) ms.length cap ∧ w'.cell? ⟨rb, 1, none⟩ = some v ∧
        w'.cell? ⟨g, i, none⟩ = some (.pointer (some ⟨(ms.getD i Mk.dflt).blk, 0, none⟩)) ∧ w'.cell? ⟨(ms.getD i Mk.dflt).blk, 1, none⟩ = some (.int .i64 (ms.getD i Mk.dflt).at_) := by
      intro w' ho
      have hR' := hR.nil ho
      obtain ⟨g, cap, cur, hv, hg, hn, hs, hc⟩ := hR'.marks.shape (by omega)
      have mi : ms.getD i Mk.dflt ∈ ms := by simp [List.getD, List.getElem?_eq_getElem hi]
      exact ⟨g, cap, hv, cell_of_row w' rb 1 _ _ _ hR'.row, (cell_of_row w' g i _ _ _ hg).trans (hc i hi), cell_of_row w' _ 1 _ _ _ (hR'.marks.marks _ mi).1⟩
    replace hK := Lib.hid hK
    simp only [Option.map_some, Option.getD_some, Option.isSome_some]
    clear hR hp hf hg h hkey
    generalize ms.getD i Mk.dflt = x at *
    have b1 : (0 : Int) ≤ i := by omega
    have b2 : (i : Int) < ms.length := by omega
    go_enter Try.func9, Try.ntmps9
    go_wp2_with fail
    refine hno.out.mono ?_
    rintro e w' ⟨rfl, rfl⟩
    go_wp2_with fail
    refine F.out.mono ?_
    rintro e w2 ⟨rfl, hO2⟩
    obtain ⟨g, cap, rfl, c1, cg, cx⟩ := hK.out w2 hO2
    go_wp2_with fail
    go_ret2
    exact ⟨rfl, hO2⟩

theorem len_any (rb : Nat) (gap : Int) (B : List Nat) (l : RTab) (w : World) (h : Rate w rb gap B l) :
    Calls Try.prog 12 #[.pointer (some ⟨rb, 0, none⟩)] w fun e w' => e = .returned (.int .i64 l.length) ∧ w = w' := by
  obtain ⟨v, ms, hR, hp, _⟩ := h.at_
  have hll : l.length = ms.length := by have := hp.length_eq; simpa [kv] using this.symm
  rw [hll]
  have c2 : w.cell? ⟨rb, 2, none⟩ = some (.bool true) := cell_of_row w rb 2 _ _ _ hR.row
  have c1 : w.cell? ⟨rb, 1, none⟩ = some v := cell_of_row w rb 1 _ _ _ hR.row
  have hno := Lib.hid (none_any rb w true c2)
  obtain ⟨a, cap, rfl⟩ := hR.marks.sl
  clear hR hp h
  go_enter Try.func12, Try.ntmps12
  go_wp2_with fail
  refine hno.out.mono ?_
  rintro e w' ⟨rfl, rfl⟩
  go_wp2_with fail
  go_ret
  exact ⟨rfl, rfl⟩

theorem new_yes (gap : Int) (w : World) (h0 : 0 ≤ gap) (h1 : gap ≤ 1073741824) : Calls Try.prog 7 #[.int .i64 gap] w fun e w' =>
    ∃ rb B, e = .returned (.tuple #[.pointer (some ⟨rb, 0, none⟩), .int .i64 0]) ∧ Rate w' rb gap B [] ∧ Own [] w w' ∧ ∀ x ∈ B, w.heap.size ≤ x := by
  have hti := timed_any gap w
  have ht : timedB gap = true := by simp [timedB, h0, h1]
  rw [ht] at hti
  replace hti := Lib.hid hti
  clear ht
  go_enter Try.func7, Try.ntmps7
  go_wp2_with fail
  refine hti.out.mono ?_
  rintro e w' ⟨rfl, rfl⟩
  go_wp2_with fail
  go_ret2
  refine ⟨w.heap.size, [w.heap.size], rfl, ⟨by simp, by simp, ⟨h0, h1⟩, .slice none 0 0, [], ⟨heap_alloc_new _ _, ⟨⟨rfl, .inl ⟨rfl, rfl⟩⟩, by simp, by simp⟩, by simp [Value.ownBlock], by simp⟩, List.Perm.refl _, by simp, by simp [Value.ownBlock], by simp⟩, (Own.refl _ _).alloc _, by simp⟩

theorem ask_eq {rb : Nat} {gap : Int} {B : List Nat} {l : RTab} {key : ByteArray} {now : Int} {b : Bool} {l' : RTab} (hb : rMay l gap key now = b) (hl : rAsk l gap key now = l') (w : World) (h : Rate w rb gap B l) :
    Calls Try.prog 8 #[.pointer (some ⟨rb, 0, none⟩), .string key, .int .i64 now] w fun e w' => e = .returned (.bool b) ∧ ∃ B', Rate w' rb gap B' l' ∧ Own B w w' ∧ ∀ x ∈ B', x ∈ B ∨ w.heap.size ≤ x := by
  subst hb hl; exact ask_any rb gap B l key now w h

theorem awake_any (w : World) : Calls Try.prog 10 #[] w fun e w' => e = .returned (.bool true) ∧ Own [] w w' := by
  go_enter Try.func10, Try.ntmps10
  go_wp2_with fail
  refine (new_yes 10 _ (by omega) (by omega)).mono ?_
  rintro e w1 ⟨rb, B1, rfl, hR1, hO1, hB1⟩
  have A1 := Lib.hid (ask_eq (key := ⟨#[97]⟩) (now := 5) (b := true) (l' := [(⟨#[97]⟩, 5)]) (by decide +kernel) (by decide +kernel) _ hR1)
  clear hR1
  go_wp2_with fail
  refine A1.out.mono ?_
  rintro e w2 ⟨rfl, B2, hR2, hO2, hB2⟩
  have A2 := Lib.hid (ask_eq (key := ⟨#[97]⟩) (now := 14) (b := false) (l' := [(⟨#[97]⟩, 5)]) (by decide +kernel) (by decide +kernel) _ hR2)
  clear hR2 A1
  go_wp2_with fail
  refine A2.out.mono ?_
  rintro e w3 ⟨rfl, B3, hR3, hO3, hB3⟩
  have A3 := Lib.hid (ask_eq (key := ⟨#[97]⟩) (now := 15) (b := true) (l' := [(⟨#[97]⟩, 15)]) (by decide +kernel) (by decide +kernel) _ hR3)
  clear hR3 A2
  go_wp2_with fail
  refine A3.out.mono ?_
  rintro e w4 ⟨rfl, B4, hR4, hO4, hB4⟩
  have L := Lib.hid (len_any _ _ _ _ _ hR4)
  clear hR4 A3
  go_wp2_with fail
  refine L.out.mono ?_
  rintro e w5 ⟨rfl, rfl⟩
  go_wp2_with fail
  go_ret
  have s1 := hO1.size
  have s2 := hO2.size
  have s3 := hO3.size
  have q2 : ∀ x ∈ B2, w.heap.size ≤ x := fun x hx => by rcases hB2 x hx with h | h; exact hB1 x h; omega
  have q3 : ∀ x ∈ B3, w.heap.size ≤ x := fun x hx => by rcases hB3 x hx with h | h; exact q2 x h; omega
  exact ⟨rfl, ((hO1.trans' hO2 (fun x hx => .inr (hB1 x hx))).trans' hO3 (fun x hx => .inr (q2 x hx))).trans' hO4 (fun x hx => .inr (q3 x hx))⟩
end Go.Proofs.Ytigkpcdlfjlehaa
