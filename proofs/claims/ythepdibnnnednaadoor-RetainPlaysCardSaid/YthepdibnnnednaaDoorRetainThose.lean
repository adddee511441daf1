/- Package retain: those, All, Find. -/
import Derived.Test.YthepdibnnnednaaDoorRetainSort
import Derived.Test.YthepdibnnnednaaDoorRetainGood
import Derived.Test.YthepdibnnnednaaDoorMatch
import Derived.Deep.LoopGhost
namespace Go.Proofs.YthepdibnnnednaaDoor
open Go.RowKit Go.Sort Go.Lib Go.Shelf

def ThosePost (q : ByteArray → Bool) (l : Msgs) (w : World) (e : Ending) (w' : World) : Prop :=
  ∃ v r, e = .returned v ∧ r.Perm (wanted q l) ∧ r.Pairwise (fun x y => sless y.top x.top = false) ∧ Sl 26 Ms.cells 4 w.heap.size w' v r ∧ Own [] w w'
set_option maxRecDepth 100000 in
theorem find1_any (f t : ByteArray) (fb : Nat) (w : World) (hT : Tabs w) (hf : w.cell? ⟨fb, 0, none⟩ = some (.string f)) :
    Calls Tryd.prog 25 #[.string t, .pointer (some ⟨fb, 0, none⟩)] w fun e w' => e = .returned (.bool (mMatch f t)) ∧ Own [] w w' := by
  have M := Lib.hid (match_any f t w hT)
  go_enter Tryd.func25, Tryd.ntmps25
  go_wp2_with (go_at_call 19; refine M.out.mono ?_; rintro e w2 ⟨rfl, hO2⟩)
  go_ret
  exact ⟨rfl, hO2⟩
set_option maxRecDepth 100000 in
set_option maxHeartbeats 4000000 in
theorem those_all (b m : Nat) (l : Msgs) (w : World) (h : Store w b m l) (hl : l.length ≤ 1000) (hT : Tabs w) :
    Calls Tryd.prog 24 #[.pointer (some ⟨b, 0, none⟩), .func (.func 21) #[] #[]] w (ThosePost lvName l w) := by
  have hm : w.cell? ⟨b, 0, none⟩ = some (.map (some m)) := cell_of_row w b 0 _ _ _ h.row
  obtain ⟨w1, rem0, hrng, hI, hp, hO1, hs1⟩ := h.map.range rMapT
  obtain ⟨r, hr⟩ : ∃ r, w.heap.size = r := ⟨_, rfl⟩
  rw [hr] at hI hrng
  have hrr : w.heap.size ≤ r := by omega
  have C := fun W (ho : Own [] w W) t => name_any t W (hT.own ho (by simp))
  have hmr : w.heap.size ≤ m → False := fun hx => by have := h.lt.2; omega
  replace hmr := Lib.hid hmr
  clear hr h
  replace hp := Lib.hid hp
  replace C := Lib.hid C
  go_enter Tryd.func24, Tryd.ntmps24
  go_wp2_with (go_at_call 20; refine (none_no _ _ _ hm).mono ?_; rintro e w' ⟨rfl, rfl⟩)
  go_loopg [5] rem0.length (fun g s5 wr => ∃ (dn rem : Msgs) (T : List Ms), g = rem.length ∧ IterP Value.string Ms.val wr r m l rem ∧ Own [] w wr ∧ Sl 26 Ms.cells 4 w.heap.size wr s5 T ∧ Aside (l.Perm (dn ++ rem) ∧ T.Perm (wanted lvName dn) ∧ (∀ g, s5.ownBlock = some g → g ≠ r)))
  case atStart => exact ⟨[], rem0, [], rfl, hI, hO1, Sl.nil _ _ _, hp.out.symm, List.Perm.refl _, fun g hg => by cases hg⟩
  case round =>
    obtain ⟨dn, rem, T, rfl, hI, hO, hS, hA⟩ := hrel
    obtain ⟨hp1, hp2, hgr⟩ := hA
    have hrl := hI.lt
    rcases hI.next Tryd.prog with ⟨hrem, hnx⟩ | ⟨r1, r2, k, v, w2, hrem, hnx, hI2, hO2, hs2, hen⟩
    · subst hrem
      rw [List.append_nil] at hp1
      have hlen : T.length ≤ 1000 := by
        have h1 := hp2.length_eq
        have h2 := hp1.length_eq
        have h3 : (wanted lvName dn).length ≤ dn.length := by simp [wanted]; exact List.length_filter_le _ _
        omega
      have hwd : T.Perm (wanted lvName l) := hp2.trans (((hp1.symm).filter _).map _)
      have hS3 := Lib.hid (sort_msgs hS (by omega))
      have hbl := fun g hg => (hS.block (g := g) hg).1
      replace hbl := Lib.hid hbl
      replace hwd := Lib.hid hwd
      replace hO := Lib.hid hO
      clear hI hp1 hp2 hgr hS
      go_wp2_with (go_at_call 36; refine hS3.out.mono ?_; rintro e w3 ⟨rfl, l', hl1, hl2, hl3, hl4⟩; have hF := Lib.hid (And.intro (hl1.trans hwd.out) (And.intro hl2 (And.intro hl3 (hO.out.trans' hl4 (fun x hx => .inr (hbl.out x (Option.mem_toList.1 hx))))))); clear hl1 hl2 hl3 hl4)
      go_ret
      exact ⟨_, l', rfl, hF.out⟩
    · subst hrem
      obtain ⟨x1, x2, x3, x4⟩ := v
      simp only [Ms.val] at hnx hen
      have hO3 := hO.trans' hO2 (by simp; omega)
      have hS2 := hS.own hO2 (fun g hg hx => by simp at hx; exact hgr g hg hx)
      have hA3 : Own [] w2 (w2.alloc (.cells #[.string x1, .string x2, .int .i64 x3, .bool x4] 26)) := (Own.refl _ _).alloc _
      have hO4 := hO3.trans hA3
      have hI4 := hI2.own hA3 (by simp) (by simp)
      have hS4 := hS2.nil' hA3
      have hrw : r < w2.heap.size := by omega
      have hrow2 : (w2.alloc (.cells #[.string x1, .string x2, .int .i64 x3, .bool x4] 26)).heap[w2.heap.size]? = some (.cells #[.string x1, .string x2, .int .i64 x3, .bool x4] 26 (0, 0)) := heap_alloc_new _ _
      have hq := C.out (w2.alloc (.cells #[.string x1, .string x2, .int .i64 x3, .bool x4] 26)) hO4 k
      have hp4 : l.Perm ((dn ++ [(k, ⟨x1, x2, x3, x4⟩)]) ++ (r1 ++ r2)) := hp1.trans (by rw [List.append_assoc]; exact List.Perm.append_left dn List.perm_middle)
      have hwq : wanted lvName (dn ++ [(k, (⟨x1, x2, x3, x4⟩ : Ms))]) = wanted lvName dn ++ (if lvName k then [⟨x1, x2, x3, x4⟩] else []) := by
        unfold wanted
        rw [List.filter_append, List.map_append]
        congr 1
        by_cases hk : lvName k <;> simp [hk]
      have hTl : T.length ≤ 1000 := by
        have h1 := hp2.length_eq
        have h2 := hp1.length_eq
        have h3 : (wanted lvName dn).length ≤ dn.length := by simp [wanted]; exact List.length_filter_le _ _
        simp at h2
        omega
      replace hrow2 := Lib.hid hrow2
      replace hs2 := Lib.hid hs2
      replace hI4 := Lib.hid hI4
      replace hS4 := Lib.hid hS4
      replace hO4 := Lib.hid hO4
      replace hgr := Lib.hid hgr
      obtain ⟨sa, sc, hsv⟩ := hS.sl
      subst hsv
      clear hI hI2 hO hO2 hO3 hS hS2 hA3 hp1
      cases hqk : lvName k
      · rw [hqk] at hq
        rw [hqk] at hwq
        simp only [Bool.false_eq_true, if_false, List.append_nil] at hwq
        replace hq := Lib.hid hq
        have hA5 := Lib.hid (And.intro hp4 (show T.Perm (wanted lvName (dn ++ [(k, (⟨x1, x2, x3, x4⟩ : Ms))])) by rw [hwq]; exact hp2))
        clear hqk hwq hp2 hp4
        go_wp2_with (go_at_call 21; refine hq.out.mono ?_; rintro e w5 ⟨rfl, hO5⟩; replace hO5 := Lib.hid hO5)
        go_roundg (r1 ++ r2).length
        case measure => simp
        case rel => exact ⟨_, r1 ++ r2, T, rfl, hI4.out.own hO5.out (by simp) (by simp), hO4.out.trans hO5.out, hS4.out.nil' hO5.out, hA5.out.1, hA5.out.2, hgr.out⟩
      · rw [hqk] at hq
        rw [hqk] at hwq
        simp only [if_true] at hwq
        replace hq := Lib.hid hq
        obtain ⟨T2, hT2⟩ : ∃ T2, T ++ [(⟨x1, x2, x3, x4⟩ : Ms)] = T2 := ⟨_, rfl⟩
        have hA5 := Lib.hid (And.intro hp4 (show T2.Perm (wanted lvName (dn ++ [(k, (⟨x1, x2, x3, x4⟩ : Ms))])) by rw [hwq, ← hT2]; exact hp2.append_right _))
        replace hT2 := Lib.hid hT2
        clear hqk hwq hp2 hp4
        go_wp2_with (first
          | (go_at_call 21; refine hq.out.mono ?_; rintro e w5 ⟨rfl, hO5⟩; have hr5 := hO5.heap hrow2.out (by simp); have d0 : w5.cell? ⟨w2.heap.size, 0, none⟩ = some (.string x1) := cell_of_row _ _ 0 _ _ _ hr5; have d1 : w5.cell? ⟨w2.heap.size, 1, none⟩ = some (.string x2) := cell_of_row _ _ 1 _ _ _ hr5; have d2 : w5.cell? ⟨w2.heap.size, 2, none⟩ = some (.int .i64 x3) := cell_of_row _ _ 2 _ _ _ hr5; have d3 : w5.cell? ⟨w2.heap.size, 3, none⟩ = some (.bool x4) := cell_of_row _ _ 3 _ _ _ hr5; have hS5 := (hS4.out.nil' hO5).nil' ((Own.refl [] w5).alloc (.cells #[.string x1, .string x2, .int .i64 x3, .bool x4] 26)); have hI5 := (hI4.out.own hO5 (by simp) (by simp)).own ((Own.refl [] w5).alloc (.cells #[.string x1, .string x2, .int .i64 x3, .bool x4] 26)) (by simp) (by simp); have hO6 := (hO4.out.trans hO5).alloc (.cells #[.string x1, .string x2, .int .i64 x3, .bool x4] 26); have hRb := Reads.new (enc := Ms.cells) (T := 26) w5 ⟨x1, x2, x3, x4⟩ 1; have hs5 := hO5.size; have hbl5 := Lib.hid (fun g hg => (hS5.block (g := g) hg).1); replace hRb := Lib.hid hRb; replace hS5 := Lib.hid hS5; replace hI5 := Lib.hid hI5; replace hO6 := Lib.hid hO6; replace hr5 := Lib.hid hr5; clear hO5)
          | (at_builtin; refine wpList_append_new2 rfl (.tmp 23) (.tmp 25) rfl mElem hO6.out rfl hS5.out rfl hRb.out (by simp only [List.length_singleton]; omega) (by unfold maxLen; simp only [List.length_singleton]; omega) ?_; intro va wa hSa hOa _ hg2 hg3; rw [hT2.out] at hSa; replace hg2 := Lib.hid hg2; replace hg3 := Lib.hid hg3; obtain ⟨aa, ca, rfl⟩ := hSa.sl; replace hOa := Lib.hid hOa; replace hSa := Lib.hid hSa))
        go_roundg (r1 ++ r2).length
        case measure => simp
        case rel =>
          have hrs : r < (w5.alloc (.cells #[.string x1, .string x2, .int .i64 x3, .bool x4] 26)).heap.size := by
            have h1 := hs5
            simp at h1 ⊢
            omega
          exact ⟨_, r1 ++ r2, T2, rfl, hI5.out.own hg3.out (fun hx => hgr.out r (Option.mem_toList.1 hx) rfl) (fun hx => hmr.out (by have := hbl5.out m (Option.mem_toList.1 hx); exact this)), hOa.out, hSa.out, hA5.out.1, hA5.out.2, fun g hg e => by
            rcases hg2.out g hg with h1 | h1
            · exact hgr.out g h1 e
            · omega⟩
set_option maxRecDepth 100000 in
set_option maxHeartbeats 4000000 in
theorem those_find (b m : Nat) (l : Msgs) (f : ByteArray) (fb : Nat) (w : World) (h : Store w b m l) (hl : l.length ≤ 1000) (hT : Tabs w) (hf : w.cell? ⟨fb, 0, none⟩ = some (.string f)) :
    Calls Tryd.prog 24 #[.pointer (some ⟨b, 0, none⟩), .func (.func 25) #[] #[.pointer (some ⟨fb, 0, none⟩)]] w (ThosePost (mMatch f) l w) := by
  have hm : w.cell? ⟨b, 0, none⟩ = some (.map (some m)) := cell_of_row w b 0 _ _ _ h.row
  obtain ⟨w1, rem0, hrng, hI, hp, hO1, hs1⟩ := h.map.range rMapT
  obtain ⟨r, hr⟩ : ∃ r, w.heap.size = r := ⟨_, rfl⟩
  rw [hr] at hI hrng
  have hrr : w.heap.size ≤ r := by omega
  have C := fun W (ho : Own [] w W) t => find1_any f t fb W (hT.own ho (by simp)) ((ho.cell (block_lt_of_cell hf) (by simp)).trans hf)
  have hmr : w.heap.size ≤ m → False := fun hx => by have := h.lt.2; omega
  replace hmr := Lib.hid hmr
  clear hr h
  replace hp := Lib.hid hp
  replace C := Lib.hid C
  go_enter Tryd.func24, Tryd.ntmps24
  go_wp2_with (go_at_call 20; refine (none_no _ _ _ hm).mono ?_; rintro e w' ⟨rfl, rfl⟩)
  go_loopg [5] rem0.length (fun g s5 wr => ∃ (dn rem : Msgs) (T : List Ms), g = rem.length ∧ IterP Value.string Ms.val wr r m l rem ∧ Own [] w wr ∧ Sl 26 Ms.cells 4 w.heap.size wr s5 T ∧ Aside (l.Perm (dn ++ rem) ∧ T.Perm (wanted (mMatch f) dn) ∧ (∀ g, s5.ownBlock = some g → g ≠ r)))
  case atStart => exact ⟨[], rem0, [], rfl, hI, hO1, Sl.nil _ _ _, hp.out.symm, List.Perm.refl _, fun g hg => by cases hg⟩
  case round =>
    obtain ⟨dn, rem, T, rfl, hI, hO, hS, hA⟩ := hrel
    obtain ⟨hp1, hp2, hgr⟩ := hA
    have hrl := hI.lt
    rcases hI.next Tryd.prog with ⟨hrem, hnx⟩ | ⟨r1, r2, k, v, w2, hrem, hnx, hI2, hO2, hs2, hen⟩
    · subst hrem
      rw [List.append_nil] at hp1
      have hlen : T.length ≤ 1000 := by
        have h1 := hp2.length_eq
        have h2 := hp1.length_eq
        have h3 : (wanted (mMatch f) dn).length ≤ dn.length := by simp [wanted]; exact List.length_filter_le _ _
        omega
      have hwd : T.Perm (wanted (mMatch f) l) := hp2.trans (((hp1.symm).filter _).map _)
      have hS3 := Lib.hid (sort_msgs hS (by omega))
      have hbl := fun g hg => (hS.block (g := g) hg).1
      replace hbl := Lib.hid hbl
      replace hwd := Lib.hid hwd
      replace hO := Lib.hid hO
      clear hI hp1 hp2 hgr hS
      go_wp2_with (go_at_call 36; refine hS3.out.mono ?_; rintro e w3 ⟨rfl, l', hl1, hl2, hl3, hl4⟩; have hF := Lib.hid (And.intro (hl1.trans hwd.out) (And.intro hl2 (And.intro hl3 (hO.out.trans' hl4 (fun x hx => .inr (hbl.out x (Option.mem_toList.1 hx))))))); clear hl1 hl2 hl3 hl4)
      go_ret
      exact ⟨_, l', rfl, hF.out⟩
    · subst hrem
      obtain ⟨x1, x2, x3, x4⟩ := v
      simp only [Ms.val] at hnx hen
      have hO3 := hO.trans' hO2 (by simp; omega)
      have hS2 := hS.own hO2 (fun g hg hx => by simp at hx; exact hgr g hg hx)
      have hA3 : Own [] w2 (w2.alloc (.cells #[.string x1, .string x2, .int .i64 x3, .bool x4] 26)) := (Own.refl _ _).alloc _
      have hO4 := hO3.trans hA3
      have hI4 := hI2.own hA3 (by simp) (by simp)
      have hS4 := hS2.nil' hA3
      have hrw : r < w2.heap.size := by omega
      have hrow2 : (w2.alloc (.cells #[.string x1, .string x2, .int .i64 x3, .bool x4] 26)).heap[w2.heap.size]? = some (.cells #[.string x1, .string x2, .int .i64 x3, .bool x4] 26 (0, 0)) := heap_alloc_new _ _
      have hq := C.out (w2.alloc (.cells #[.string x1, .string x2, .int .i64 x3, .bool x4] 26)) hO4 k
      have hp4 : l.Perm ((dn ++ [(k, ⟨x1, x2, x3, x4⟩)]) ++ (r1 ++ r2)) := hp1.trans (by rw [List.append_assoc]; exact List.Perm.append_left dn List.perm_middle)
      have hwq : wanted (mMatch f) (dn ++ [(k, (⟨x1, x2, x3, x4⟩ : Ms))]) = wanted (mMatch f) dn ++ (if (mMatch f) k then [⟨x1, x2, x3, x4⟩] else []) := by
        unfold wanted
        rw [List.filter_append, List.map_append]
        congr 1
        by_cases hk : (mMatch f) k <;> simp [hk]
      have hTl : T.length ≤ 1000 := by
        have h1 := hp2.length_eq
        have h2 := hp1.length_eq
        have h3 : (wanted (mMatch f) dn).length ≤ dn.length := by simp [wanted]; exact List.length_filter_le _ _
        simp at h2
        omega
      replace hrow2 := Lib.hid hrow2
      replace hs2 := Lib.hid hs2
      replace hI4 := Lib.hid hI4
      replace hS4 := Lib.hid hS4
      replace hO4 := Lib.hid hO4
      replace hgr := Lib.hid hgr
      obtain ⟨sa, sc, hsv⟩ := hS.sl
      subst hsv
      clear hI hI2 hO hO2 hO3 hS hS2 hA3 hp1
      cases hqk : (mMatch f) k
      · rw [hqk] at hq
        rw [hqk] at hwq
        simp only [Bool.false_eq_true, if_false, List.append_nil] at hwq
        replace hq := Lib.hid hq
        have hA5 := Lib.hid (And.intro hp4 (show T.Perm (wanted (mMatch f) (dn ++ [(k, (⟨x1, x2, x3, x4⟩ : Ms))])) by rw [hwq]; exact hp2))
        clear hqk hwq hp2 hp4
        go_wp2_with (go_at_call 25; refine hq.out.mono ?_; rintro e w5 ⟨rfl, hO5⟩; replace hO5 := Lib.hid hO5)
        go_roundg (r1 ++ r2).length
        case measure => simp
        case rel => exact ⟨_, r1 ++ r2, T, rfl, hI4.out.own hO5.out (by simp) (by simp), hO4.out.trans hO5.out, hS4.out.nil' hO5.out, hA5.out.1, hA5.out.2, hgr.out⟩
      · rw [hqk] at hq
        rw [hqk] at hwq
        simp only [if_true] at hwq
        replace hq := Lib.hid hq
        obtain ⟨T2, hT2⟩ : ∃ T2, T ++ [(⟨x1, x2, x3, x4⟩ : Ms)] = T2 := ⟨_, rfl⟩
        have hA5 := Lib.hid (And.intro hp4 (show T2.Perm (wanted (mMatch f) (dn ++ [(k, (⟨x1, x2, x3, x4⟩ : Ms))])) by rw [hwq, ← hT2]; exact hp2.append_right _))
        replace hT2 := Lib.hid hT2
        clear hqk hwq hp2 hp4
        go_wp2_with (first
          | (go_at_call 25; refine hq.out.mono ?_; rintro e w5 ⟨rfl, hO5⟩; have hr5 := hO5.heap hrow2.out (by simp); have d0 : w5.cell? ⟨w2.heap.size, 0, none⟩ = some (.string x1) := cell_of_row _ _ 0 _ _ _ hr5; have d1 : w5.cell? ⟨w2.heap.size, 1, none⟩ = some (.string x2) := cell_of_row _ _ 1 _ _ _ hr5; have d2 : w5.cell? ⟨w2.heap.size, 2, none⟩ = some (.int .i64 x3) := cell_of_row _ _ 2 _ _ _ hr5; have d3 : w5.cell? ⟨w2.heap.size, 3, none⟩ = some (.bool x4) := cell_of_row _ _ 3 _ _ _ hr5; have hS5 := (hS4.out.nil' hO5).nil' ((Own.refl [] w5).alloc (.cells #[.string x1, .string x2, .int .i64 x3, .bool x4] 26)); have hI5 := (hI4.out.own hO5 (by simp) (by simp)).own ((Own.refl [] w5).alloc (.cells #[.string x1, .string x2, .int .i64 x3, .bool x4] 26)) (by simp) (by simp); have hO6 := (hO4.out.trans hO5).alloc (.cells #[.string x1, .string x2, .int .i64 x3, .bool x4] 26); have hRb := Reads.new (enc := Ms.cells) (T := 26) w5 ⟨x1, x2, x3, x4⟩ 1; have hs5 := hO5.size; have hbl5 := Lib.hid (fun g hg => (hS5.block (g := g) hg).1); replace hRb := Lib.hid hRb; replace hS5 := Lib.hid hS5; replace hI5 := Lib.hid hI5; replace hO6 := Lib.hid hO6; replace hr5 := Lib.hid hr5; clear hO5)
          | (at_builtin; refine wpList_append_new2 rfl (.tmp 23) (.tmp 25) rfl mElem hO6.out rfl hS5.out rfl hRb.out (by simp only [List.length_singleton]; omega) (by unfold maxLen; simp only [List.length_singleton]; omega) ?_; intro va wa hSa hOa _ hg2 hg3; rw [hT2.out] at hSa; replace hg2 := Lib.hid hg2; replace hg3 := Lib.hid hg3; obtain ⟨aa, ca, rfl⟩ := hSa.sl; replace hOa := Lib.hid hOa; replace hSa := Lib.hid hSa))
        go_roundg (r1 ++ r2).length
        case measure => simp
        case rel =>
          have hrs : r < (w5.alloc (.cells #[.string x1, .string x2, .int .i64 x3, .bool x4] 26)).heap.size := by
            have h1 := hs5
            simp at h1 ⊢
            omega
          exact ⟨_, r1 ++ r2, T2, rfl, hI5.out.own hg3.out (fun hx => hgr.out r (Option.mem_toList.1 hx) rfl) (fun hx => hmr.out (by have := hbl5.out m (Option.mem_toList.1 hx); exact this)), hOa.out, hSa.out, hA5.out.1, hA5.out.2, fun g hg e => by
            rcases hg2.out g hg with h1 | h1
            · exact hgr.out g h1 e
            · omega⟩
end Go.Proofs.YthepdibnnnednaaDoor
