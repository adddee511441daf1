/- Package edge: bear. -/
import Derived.Test.YtjfmbjgniajagaaGreatDoorEdgeSet
import Derived.Test.YtjfmbjgniajagaaGreatDoorAliasSet
import Derived.Test.YtjfmbjgniajagaaGreatDoorEdgeBox
import Derived.Deep.RegionHeld3
set_option linter.unusedSimpArgs false
set_option linter.unusedVariables false
namespace Go.Proofs.YtjfmbjgniajagaaGreatDoor
open Go.RowKit

theorem ins_flat {α β : Type} (f : α → List β) (l : List α) (i : Nat) (d : α) : ((l.take i ++ [d] ++ l.drop i).flatMap f).Perm (f d ++ l.flatMap f) := by
  have h : (l.take i ++ [d] ++ l.drop i).Perm (d :: l) := by
    rw [List.append_assoc]
    refine (List.perm_append_comm_assoc _ _ _).trans ?_
    rw [List.take_append_drop]
    exact List.Perm.refl _
  rw [← List.flatMap_cons]
  exact h.flatMap_right f
/-- One device more. -/
theorem EdgeAt.insDev {w w2 w3 : World} {n : Nat} {g nm : ByteArray} {L : EW} {s : EN} (h : EdgeAt w n g nm L s) {i : Nat} {d : DW} {x : Dev} {v' : Value} (ho2 : Own [] w w2) (hD : DevAt w2 d x) (hda : d.a = none) (hge : w.heap.size ≤ d.blk)
    (hS : Sl 86 dEnc 1 0 w3 v' (L.ds.take i ++ [d] ++ L.ds.drop i)) (ho3 : Own L.dv.ownBlock.toList w2 w3) (hg : ∀ b, v'.ownBlock = some b → L.dv.ownBlock = some b ∨ w2.heap.size ≤ b) (hl : L.ds.length ≤ 3) (hi : i ≤ L.ds.length) :
    EdgeAt (w3.setCell ⟨n, 8, none⟩ v') n g nm { L with dv := v', ds := L.ds.take i ++ [d] ++ L.ds.drop i } { s with dev := s.dev.take i ++ [x] ++ s.dev.drop i } ∧
      Own (L.feet n) w (w3.setCell ⟨n, 8, none⟩ v') ∧ (∀ y ∈ ({ L with dv := v', ds := L.ds.take i ++ [d] ++ L.ds.drop i } : EW).feet n, y ∈ L.feet n ∨ w.heap.size ≤ y) := by
  have hA := h.apart
  have hA' := hA
  unfold EW.feet at hA'
  simp only [List.nodup_cons, List.mem_cons, List.mem_append, not_or] at hA'
  obtain ⟨⟨a1, a2, a3, a4, a5, a6⟩, ⟨b2, b3, b4, b5, b6⟩, ⟨c3, c4, c5, c6⟩, ⟨d4, d5, d6⟩, hN⟩ := hA'
  obtain ⟨_, hN2, hN3⟩ := List.nodup_append.1 hN
  obtain ⟨_, _, hN4⟩ := List.nodup_append.1 hN2
  have hsz2 := ho2.size
  have hdl : d.blk < w2.heap.size := lt_of_heap hD.1
  -- the feet
  have hbase : (L.feet n).Perm (L.dv.ownBlock.toList ++ (n :: L.rb :: L.tb :: L.tm :: (blkOf L.ia ++ L.ds.flatMap dFoot))) := by
    refine List.perm_iff_count.2 fun y => ?_
    unfold EW.feet
    have hf : (L.ds.flatMap fun d => d.blk :: blkOf d.a) = L.ds.flatMap dFoot := rfl
    rw [hf]
    simp only [List.count_cons, List.count_append]
    omega
  have hnew : (({ L with dv := v', ds := L.ds.take i ++ [d] ++ L.ds.drop i } : EW).feet n).Perm (v'.ownBlock.toList ++ (d.blk :: (n :: L.rb :: L.tb :: L.tm :: (blkOf L.ia ++ L.ds.flatMap dFoot)))) := by
    have hfl := ins_flat dFoot L.ds i d
    have hd : dFoot d = [d.blk] := by unfold dFoot blkOf; rw [hda]; rfl
    rw [hd] at hfl
    refine List.perm_iff_count.2 fun y => ?_
    have hc := hfl.count_eq y
    unfold EW.feet
    have hf : ((L.ds.take i ++ [d] ++ L.ds.drop i).flatMap fun d => d.blk :: blkOf d.a) = (L.ds.take i ++ [d] ++ L.ds.drop i).flatMap dFoot := rfl
    simp only [hf]
    simp only [List.count_cons, List.count_append, List.count_nil] at hc ⊢
    omega
  have hbl : ∀ y ∈ n :: L.rb :: L.tb :: L.tm :: (blkOf L.ia ++ L.ds.flatMap dFoot), y < w.heap.size := fun y hy => h.lt y (hbase.symm.subset (List.mem_append_right _ hy))
  have hbn : (n :: L.rb :: L.tb :: L.tm :: (blkOf L.ia ++ L.ds.flatMap dFoot)).Nodup := (List.nodup_append.1 (hbase.nodup_iff.1 hA)).2.1
  have hsub : ∀ y ∈ ({ L with dv := v', ds := L.ds.take i ++ [d] ++ L.ds.drop i } : EW).feet n, y ∈ L.feet n ∨ w.heap.size ≤ y := fun y hy => by
    rcases List.mem_append.1 (hnew.subset hy) with h1 | h1
    · rcases hg y (Option.mem_toList.1 h1) with h2 | h2
      · exact .inl (hbase.symm.subset (List.mem_append_left _ (Option.mem_toList.2 h2)))
      · exact .inr (by omega)
    · rcases List.mem_cons.1 h1 with h2 | h2
      · exact .inr (by omega)
      · exact .inl (hbase.symm.subset (List.mem_append_right _ h2))
  have hdn : (d.blk :: (n :: L.rb :: L.tb :: L.tm :: (blkOf L.ia ++ L.ds.flatMap dFoot))).Nodup := List.nodup_cons.2 ⟨fun hm => by have := hbl _ hm; omega, hbn⟩
  have hap : (({ L with dv := v', ds := L.ds.take i ++ [d] ++ L.ds.drop i } : EW).feet n).Nodup := by
    refine hnew.nodup_iff.2 ?_
    cases hv : v'.ownBlock with
    | none => simpa using hdn
    | some b =>
      simp only [Option.toList_some, List.singleton_append]
      refine List.nodup_cons.2 ⟨fun hm => ?_, hdn⟩
      rcases hg b hv with h1 | h1
      · have hb2 := hbase.nodup_iff.1 hA
        rw [h1] at hb2
        simp only [Option.toList_some, List.singleton_append] at hb2
        rcases List.mem_cons.1 hm with h2 | h2
        · have := (h.dvs.block h1).2; omega
        · exact (List.nodup_cons.1 hb2).1 h2
      · rcases List.mem_cons.1 hm with h2 | h2
        · omega
        · have := hbl b h2; omega
  -- the memory
  have hO4 : Own [n] w3 (w3.setCell ⟨n, 8, none⟩ v') := (Own.refl _ _).setCell (by simp) _
  have hvn : ∀ y, y ∈ L.feet n → y ∉ L.dv.ownBlock.toList → y ≠ n → y ∉ [n] := fun y _ _ h1 => by simpa using h1
  have h2 := h.nil' ho2
  have hdvS : ∀ y, L.dv.ownBlock ≠ some y → y ∉ L.dv.ownBlock.toList := fun y h1 h2 => h1 (Option.mem_toList.1 h2)
  have hdi : ∀ y, y ∈ blkOf L.ia → y ∉ L.dv.ownBlock.toList := fun y hy hx => hN3 y hy y (List.mem_append_left _ hx) rfl
  have hdd : ∀ y, y ∈ L.ds.flatMap dFoot → y ∉ L.dv.ownBlock.toList := fun y hy hx => hN4 y hx y hy rfl
  have hnd : n ∉ L.dv.ownBlock.toList := a5
  refine ⟨⟨heap_setCell_same _ _ _ _ _ _ (ho3.heap h2.row hnd), (h2.rrow.own ho3 b5).own hO4 (by simpa using Ne.symm a1), (h2.tab.own ho3 c5 d5).own hO4 (by simpa using Ne.symm a2) (by simpa using Ne.symm a3), (h2.its.own' ho3 (fun b hb => hdi b (blkOf_mem hb))).own' hO4 (fun b hb => by simp; rintro rfl; exact a4 (blkOf_mem hb)), hS.own hO4 (fun b hb => ?_), by simp [h.len, List.length_take], fun j e y he hy => ?_, hap, ⟨h.few.1, h.few.2.1, ?_⟩⟩, ?_, hsub⟩
  · simp; rintro rfl
    rcases hg b hb with h1 | h1
    · exact a5 (by simp [h1])
    · have := h.lt b (by unfold EW.feet; simp); omega
  · have hmem : ∀ (j : Nat) e y, (L.ds.take i ++ [d] ++ L.ds.drop i)[j]? = some e → (s.dev.take i ++ [x] ++ s.dev.drop i)[j]? = some y → (e = d ∧ y = x) ∨ ∃ k, L.ds[k]? = some e ∧ s.dev[k]? = some y := fun j e y he hy => by
      have hlt : (L.ds.take i).length = i := by rw [List.length_take]; omega
      have hls : (s.dev.take i).length = i := by rw [List.length_take, h.len]; omega
      rw [List.append_assoc, List.getElem?_append, hlt] at he
      rw [List.append_assoc, List.getElem?_append, hls] at hy
      by_cases hj : j < i
      · rw [if_pos hj] at he hy
        rw [List.getElem?_take_of_lt hj] at he hy
        exact .inr ⟨j, he, hy⟩
      · rw [if_neg hj] at he hy
        rcases hk : j - i with _ | k
        · rw [hk] at he hy
          simp at he hy
          exact .inl ⟨he.symm, hy.symm⟩
        · rw [hk] at he hy
          simp only [List.singleton_append, List.getElem?_cons_succ, List.getElem?_drop] at he hy
          exact .inr ⟨_, he, hy⟩
    rcases hmem j e y he hy with ⟨rfl, rfl⟩ | ⟨k, q1, q2⟩
    · exact (hD.own ho3 (hdvS _ (fun e1 => by have := (h.dvs.block e1).2; omega)) (fun b hb => by rw [hda] at hb; cases hb)).own hO4 (by have := h.lt n (by unfold EW.feet; simp); simp; omega) (fun b hb => by rw [hda] at hb; cases hb)
    · have hm : e ∈ L.ds := List.mem_of_getElem? q1
      have hin : ∀ b, b ∈ dFoot e → b ∉ L.dv.ownBlock.toList ∧ b ∉ [n] := fun b hb => ⟨hdd b (List.mem_flatMap.2 ⟨e, hm, hb⟩), by simp; rintro rfl; exact a6 (List.mem_flatMap.2 ⟨e, hm, hb⟩)⟩
      exact ((h2.devs k e y q1 q2).own ho3 (hin _ (List.mem_cons_self ..)).1 (fun b hb => (hin b (List.mem_cons_of_mem _ (blkOf_mem hb))).1)).own hO4 (hin _ (List.mem_cons_self ..)).2 (fun b hb => (hin b (List.mem_cons_of_mem _ (blkOf_mem hb))).2)
  · have := h.len
    simp [List.length_take]
    omega
  · refine (ho2.nil.trans (ho3.mono fun y hy => hbase.symm.subset (List.mem_append_left _ hy))).trans (hO4.mono fun y hy => ?_)
    simp at hy; subst hy
    unfold EW.feet; simp
theorem dv_cell {W : World} {n : Nat} {g nm : ByteArray} {L : EW} {s : EN} (h : EdgeAt W n g nm L s) {i : Nat} {d : DW} (hi : L.ds[i]? = some d) : ∃ gb cp, L.dv = .slice (some ⟨gb, 0, none⟩) L.ds.length cp ∧ W.cell? ⟨gb, i, none⟩ = some (.pointer (some ⟨d.blk, 0, none⟩)) := by
  rcases h.dvs.form with ⟨h1, h2⟩ | ⟨gb, cp, h1, _, hR⟩
  · rw [h2] at hi; simp at hi
  · have := hR.cell dEnc_len hi (show (dEnc d)[0]? = _ from rfl)
    exact ⟨gb, cp, h1, by simpa using this⟩
theorem bear_set {W : World} {n : Nat} {g nm : ByteArray} {L : EW} {s : EN} (h : EdgeAt W n g nm L s) (dn : ByteArray) (a : Option Addr) (l : List Itm) (c : Nat) (hA : ItemsAt W a l) (haf : ∀ b, a.map (·.block) = some b → b ∉ L.feet n) :
    Calls Tryz.prog 52 #[.pointer (some ⟨L.tb, 0, none⟩), .string dn, .slice a l.length c] W fun e w' => (∃ c, e = .returned (.int .i64 c)) ∧ EdgeAt w' n g nm L { s with al := (aSet s.al dn l).2 } ∧ Own (L.feet n) W w' ∧ ItemsAt w' a l := by
  refine (set_any L.tb L.tm s.al dn a l.length c (itAt l) W h.tab (itemRow_of hA) (by have := h.few.2.1; omega)).mono ?_
  rintro e w' ⟨rfl, hT, hO⟩
  rw [itList_self] at hT ⊢
  have hO2 : Own (L.feet n) W w' := hO.mono (fun y hy => by simp at hy; subst hy; unfold EW.feet; simp)
  exact ⟨⟨_, rfl⟩, h.setTab (hO.mono (by simp)) hT (aSet_nil_len _ _ _ h.few.2.1), hO2, hA.own hO2 haf⟩
theorem bear_born {W : World} {n : Nat} {g nm : ByteArray} {L : EW} {s : EN} (h : EdgeAt W n g nm L s) {i : Nat} {d : DW} {x : Dev} (hi : L.ds[i]? = some d) (hx : s.dev[i]? = some x) (a : Option Addr) (l : List Itm) (c : Nat) (hA : ItemsAt W a l) (hl : l.length ≤ 32) :
    Calls Tryz.prog 97 #[.pointer (some ⟨d.blk, 0, none⟩), .slice a l.length c] W fun e w' => e = .returned (.int .i64 0) ∧ ∃ L', EdgeAt w' n g nm L' { s with dev := s.dev.set i ⟨x.name, true, l⟩ } ∧ Own (L.feet n) W w' ∧ (∀ y ∈ L'.feet n, y ∈ L.feet n ∨ W.heap.size ≤ y) := by
  refine (vborn_any d x a l c W (h.devs i d x hi hx) hA hl).mono ?_
  rintro e w' ⟨rfl, d', hb, hP, hO, hf⟩
  obtain ⟨h1, h2⟩ := h.setDev (x' := ⟨x.name, true, l⟩) hi hP hb hO hf
  exact ⟨rfl, _, h1, hO.mono (fun y hy => by simp at hy; subst hy; exact (feet_dev L n i hi).symm.subset (List.mem_cons_self ..)), h2⟩
theorem epost_trans {n : Nat} {g nm : ByteArray} {L L1 : EW} {s : EN} {w w1 w2 : World} (ho : Own (L.feet n) w w1) (hf : ∀ y ∈ L1.feet n, y ∈ L.feet n ∨ w.heap.size ≤ y) (h : ∃ L', EdgeAt w2 n g nm L' s ∧ Own (L1.feet n) w1 w2 ∧ (∀ y ∈ L'.feet n, y ∈ L1.feet n ∨ w1.heap.size ≤ y)) :
    ∃ L', EdgeAt w2 n g nm L' s ∧ Own (L.feet n) w w2 ∧ (∀ y ∈ L'.feet n, y ∈ L.feet n ∨ w.heap.size ≤ y) := by
  obtain ⟨L', h1, h2, h3⟩ := h
  refine ⟨L', h1, ho.trans' h2 hf, fun y hy => ?_⟩
  rcases h3 y hy with h4 | h4
  · exact hf y h4
  · exact .inr (Nat.le_trans ho.size h4)
set_option maxRecDepth 100000 in
set_option maxHeartbeats 4000000 in
theorem bear_yes (n : Nat) (g nm : ByteArray) (L : EW) (s : EN) (i : Nat) (d : DW) (x : Dev) (dn : ByteArray) (a : Option Addr) (l : List Itm) (c : Nat) (w : World) (h : EdgeAt w n g nm L s) (hi : L.ds[i]? = some d) (hx : s.dev[i]? = some x) (hA : ItemsAt w a l) (hl : l.length ≤ 32) (haf : ∀ b, a.map (·.block) = some b → b ∉ L.feet n) :
    Calls Tryz.prog 62 #[.pointer (some ⟨n, 0, none⟩), .int .i64 i, .bool true, .string dn, .slice a l.length c] w (EPost n g nm L (1, { s with al := (aSet s.al dn l).2, dev := s.dev.set i ⟨x.name, true, l⟩ }) w) := by
  have cS := Lib.hid (bear_set h dn a l c hA haf)
  have hC := Lib.hid fun W s' (hk : EdgeAt W n g nm L s') => edge_cells hk (S := []) (by simp) W (Own.refl _ _)
  have hD := Lib.hid fun W s' (hk : EdgeAt W n g nm L s') => dv_cell hk hi
  have hB := Lib.hid fun W (s' : EN) (hk : EdgeAt W n g nm L s') hx hA => bear_born (i := i) (d := d) (x := x) (a := a) (l := l) (c := c) hk hi hx hA hl
  obtain ⟨⟨k2, k3, k4, k5, k6, k7, k8⟩, _⟩ := hC.out w s h
  obtain ⟨gb, cp, hdv, _⟩ := hD.out w s h
  have hx2 : ({ s with al := (aSet s.al dn l).2 } : EN).dev[i]? = some x := hx
  have hil : i < L.ds.length := (List.getElem?_eq_some_iff.1 hi).1
  have hi4 : L.ds.length ≤ 4 := by have := h.few.2.2; rw [h.len] at this; exact this
  have hff : ∀ y ∈ L.feet n, y ∈ L.feet n ∨ w.heap.size ≤ y := fun y hy => .inl hy
  replace hx2 := Lib.hid hx2
  replace hdv := Lib.hid hdv
  replace hff := Lib.hid hff
  unfold EPost
  clear h hA haf k2 k3 k4 k5 k6 hi hx
  go_enter Tryz.func62, Tryz.ntmps62
  go_wp2_with (go_at_call 52; (with_reducible refine cS.out.mono ?_); rintro e w1 ⟨⟨c1, rfl⟩, hE1, hO1, hA1⟩; obtain ⟨⟨_, _, _, _, _, _, z8⟩, _⟩ := hC.out _ _ hE1; rw [hdv.out] at z8; obtain ⟨gb1, cp1, hdv1, hcl⟩ := hD.out _ _ hE1; rw [hdv.out] at hdv1; cases hdv1; have cB := Lib.hid (hB.out _ _ hE1 hx2.out hA1); clear hA1; replace hE1 := Lib.hid hE1; replace hO1 := Lib.hid hO1)
  go_wp2_with (go_at_call 97; (with_reducible refine cB.out.mono ?_); rintro e w2 ⟨rfl, hx3⟩; replace hx3 := Lib.hid hx3)
  go_ret
  exact ⟨rfl, epost_trans hO1.out hff.out hx3.out⟩
theorem take_set_ins {α : Type} (l : List α) (i : Nat) (x y : α) (hi : i ≤ l.length) : (l.take i ++ [x] ++ l.drop i).set i y = l.take i ++ [y] ++ l.drop i := by
  have e : (l.take i).length = i := by rw [List.length_take]; omega
  rw [List.append_assoc, List.append_assoc, List.set_append_right _ _ (by omega), e, Nat.sub_self]
  rfl
set_option maxRecDepth 100000 in
set_option maxHeartbeats 4000000 in
theorem bear_no (n : Nat) (g nm : ByteArray) (L : EW) (s : EN) (i : Nat) (dn : ByteArray) (a : Option Addr) (l : List Itm) (c : Nat) (w : World) (h : EdgeAt w n g nm L s) (hi : i ≤ L.ds.length) (h3 : L.ds.length ≤ 3) (hdn : dn.toList.isEmpty = false) (hA : ItemsAt w a l) (hl : l.length ≤ 32)
    (haf : ∀ b, a.map (·.block) = some b → b ∉ L.feet n) (hal : ∀ b, a.map (·.block) = some b → b < w.heap.size) :
    Calls Tryz.prog 62 #[.pointer (some ⟨n, 0, none⟩), .int .i64 i, .bool false, .string dn, .slice a l.length c] w (EPost n g nm L (1, { s with al := (aSet s.al dn l).2, dev := s.dev.take i ++ [⟨dn, true, l⟩] ++ s.dev.drop i }) w) := by
  have cN := Lib.hid (dnew_any dn w hdn)
  have hlen := h.len
  have hln : n < w.heap.size := lt_of_heap h.row
  obtain ⟨da, dc, hdv⟩ := h.dvs.sl
  have hC0 : ∀ W, Own [] w W → W.cell? ⟨n, 8, none⟩ = some (.slice da L.ds.length dc) := fun W ho => by rw [← hdv]; exact (edge_cells h (S := []) (by simp) W ho).1.2.2.2.2.2.2
  have hIn : ∀ w1 b, Own [] w w1 → Calls Tryz.prog 96 #[.slice da L.ds.length dc, .int .i64 i, .slice (some ⟨w1.heap.size, 0, none⟩) 1 1] (w1.alloc (.cells #[.pointer (some ⟨b, 0, none⟩)] 86)) (InsPost (.slice da L.ds.length dc) (L.ds.take i ++ [⟨b, none, 0, 0⟩] ++ L.ds.drop i) (w1.alloc (.cells #[.pointer (some ⟨b, 0, none⟩)] 86))) := fun w1 b ho => by
    have := ins_any L.dv L.ds ⟨b, none, 0, 0⟩ w1.heap.size i (w1.alloc (.cells #[.pointer (some ⟨b, 0, none⟩)] 86)) (h.dvs.nil' (ho.alloc _)) (heap_alloc_new w1 _) (fun e => by have h1 := (h.dvs.block e).2; have h2 := ho.size; omega) h3 hi
    rw [hdv] at this
    exact this
  have hcl : (L.ds.take i ++ [(⟨0, none, 0, 0⟩ : DW)] ++ L.ds.drop i).length = L.ds.length + 1 := by simp; omega
  have hStep : ∀ w1 w3 b v', Own [] w w1 → DevAt w1 ⟨b, none, 0, 0⟩ ⟨dn, false, []⟩ → w.heap.size ≤ b → Sl 86 dEnc 1 0 w3 v' (L.ds.take i ++ [⟨b, none, 0, 0⟩] ++ L.ds.drop i) → Own (Value.slice da L.ds.length dc).ownBlock.toList (w1.alloc (.cells #[.pointer (some ⟨b, 0, none⟩)] 86)) w3 →
      (∀ q, v'.ownBlock = some q → (Value.slice da L.ds.length dc).ownBlock = some q ∨ (w1.alloc (.cells #[.pointer (some ⟨b, 0, none⟩)] 86)).heap.size ≤ q) →
      (w3.frozen? ⟨n, 8, none⟩ = false ∧ w3.cell? ⟨n, 8, none⟩ = some (.slice da L.ds.length dc) ∧ w3.cell? ⟨n, 7, none⟩ = some (.pointer (some ⟨L.tb, 0, none⟩))) ∧
      ∃ L1, L1.tb = L.tb ∧ L1.ds = L.ds.take i ++ [⟨b, none, 0, 0⟩] ++ L.ds.drop i ∧ L1.dv = v' ∧ EdgeAt (w3.setCell ⟨n, 8, none⟩ v') n g nm L1 { s with dev := s.dev.take i ++ [⟨dn, false, []⟩] ++ s.dev.drop i } ∧ Own (L.feet n) w (w3.setCell ⟨n, 8, none⟩ v') ∧ (∀ y ∈ L1.feet n, y ∈ L.feet n ∨ w.heap.size ≤ y) := fun w1 w3 b v' ho hD hb hS ho3 hg => by
    rw [← hdv] at ho3 hg
    have hA2 := ho.alloc (.cells #[.pointer (some ⟨b, 0, none⟩)] 86)
    have hnn : n ∉ L.dv.ownBlock.toList := by
      have := h.apart
      unfold EW.feet at this
      simp only [List.nodup_cons, List.mem_cons, List.mem_append, not_or] at this
      exact this.1.2.2.2.2.1
    have hrow := ho3.heap (hA2.heap h.row (by simp)) hnn
    obtain ⟨q1, q2, q3⟩ := h.insDev (i := i) (d := ⟨b, none, 0, 0⟩) (x := ⟨dn, false, []⟩) hA2 (hD.nil' ((Own.refl _ _).alloc _)) rfl hb hS ho3 hg h3 hi
    exact ⟨⟨frozen_of_row _ _ _ _ _ hrow, by rw [← hdv]; exact cell_of_row _ _ 8 _ _ _ hrow, cell_of_row _ _ 7 _ _ _ hrow⟩, { L with dv := v', ds := L.ds.take i ++ [⟨b, none, 0, 0⟩] ++ L.ds.drop i }, rfl, rfl, rfl, q1, q2, q3⟩
  have hS2 : ∀ W L1 s', EdgeAt W n g nm L1 s' → Own (L.feet n) w W → (∀ y ∈ L1.feet n, y ∈ L.feet n ∨ w.heap.size ≤ y) → Calls Tryz.prog 52 #[.pointer (some ⟨L1.tb, 0, none⟩), .string dn, .slice a l.length c] W fun e w' => (∃ c, e = .returned (.int .i64 c)) ∧ EdgeAt w' n g nm L1 { s' with al := (aSet s'.al dn l).2 } ∧ Own (L1.feet n) W w' ∧ ItemsAt w' a l := fun W L1 s' hk ho hf =>
    bear_set hk dn a l c (hA.own ho haf) (fun b hb hx => by
      rcases hf b hx with h1 | h1
      · exact haf b hb h1
      · have := hal b hb; omega)
  have hC := Lib.hid fun W L1 s' (hk : EdgeAt W n g nm L1 s') => edge_cells hk (S := []) (by simp) W (Own.refl _ _)
  have hD := Lib.hid fun W L1 s' d hi' (hk : EdgeAt W n g nm L1 s') => dv_cell (i := i) (d := d) hk hi'
  have hB := Lib.hid fun W L1 (s' : EN) d x hi' (hk : EdgeAt W n g nm L1 s') hx hA => bear_born (i := i) (d := d) (x := x) (a := a) (l := l) (c := c) hk hi' hx hA hl
  have hfin : ∀ w', (∃ L', EdgeAt w' n g nm L' { s with al := (aSet s.al dn l).2, dev := (s.dev.take i ++ [(⟨dn, false, []⟩ : Dev)] ++ s.dev.drop i).set i ⟨dn, true, l⟩ } ∧ Own (L.feet n) w w' ∧ (∀ y ∈ L'.feet n, y ∈ L.feet n ∨ w.heap.size ≤ y)) → ∃ L', EdgeAt w' n g nm L' { s with al := (aSet s.al dn l).2, dev := s.dev.take i ++ [⟨dn, true, l⟩] ++ s.dev.drop i } ∧ Own (L.feet n) w w' ∧ (∀ y ∈ L'.feet n, y ∈ L.feet n ∨ w.heap.size ≤ y) := fun w' hh => by
    rw [take_set_ins _ _ _ _ (by omega)] at hh
    exact hh
  have hgi : ∀ b, (L.ds.take i ++ [(⟨b, none, 0, 0⟩ : DW)] ++ L.ds.drop i)[i]? = some ⟨b, none, 0, 0⟩ ∧ (L.ds.take i ++ [(⟨b, none, 0, 0⟩ : DW)] ++ L.ds.drop i).length = L.ds.length + 1 := fun b => by
    have e : (L.ds.take i).length = i := by rw [List.length_take]; omega
    refine ⟨?_, by simp; omega⟩
    rw [List.append_assoc, List.getElem?_append_right (by omega), e, Nat.sub_self]; rfl
  have hgx : (s.dev.take i ++ [(⟨dn, false, []⟩ : Dev)] ++ s.dev.drop i)[i]? = some ⟨dn, false, []⟩ := by
    have e : (s.dev.take i).length = i := by rw [List.length_take]; omega
    rw [List.append_assoc, List.getElem?_append_right (by omega), e, Nat.sub_self]; rfl
  unfold EPost
  replace hC0 := Lib.hid hC0
  replace hIn := Lib.hid hIn
  replace hStep := Lib.hid hStep
  replace hS2 := Lib.hid hS2
  replace hfin := Lib.hid hfin
  replace hgi := Lib.hid hgi
  replace hgx := Lib.hid hgx
  have hil1 : i < L.ds.length + 1 := by omega
  clear h hA haf hal hdv hcl hlen hdn hl
  go_enter Tryz.func62, Tryz.ntmps62
  go_wp2_with (first
    | (go_at_call 95; (with_reducible refine cN.out.mono ?_); rintro e w1 ⟨b, rfl, hD1, hO1, hb1⟩; have k8 := hC0.out _ hO1; have cI := Lib.hid (hIn.out w1 b hO1); have hSt := Lib.hid (fun w3 v' => hStep.out w1 w3 b v' hO1 hD1 hb1); clear hD1 hb1; replace hO1 := Lib.hid hO1)
    | (go_at_call 96; (with_reducible refine cI.out.mono ?_); rintro e w3 ⟨v3, rfl, hS3, hO3, hg3⟩; obtain ⟨va, vc, rfl⟩ := hS3.sl; obtain ⟨⟨f8, k83, k73⟩, L1, hL1, hL2, hL3, hE4, hO4, hf4⟩ := hSt.out _ _ hS3 hO3 hg3; rw [(hgi.out b).2] at hL3 hE4 hO4 ⊢; have cS4 := hS2.out _ _ _ hE4 hO4 hf4; rw [hL1] at cS4; replace cS4 := Lib.hid cS4; replace hL1 := Lib.hid hL1; replace hL2 := Lib.hid hL2; replace hL3 := Lib.hid hL3; replace hE4 := Lib.hid hE4; replace hO4 := Lib.hid hO4; replace hf4 := Lib.hid hf4; clear hS3 hO3 hg3))
  go_wp2_with (go_at_call 52; (with_reducible refine cS4.out.mono ?_); rintro e w5 ⟨⟨c1, rfl⟩, hE5, hO5, hA5⟩; obtain ⟨⟨_, _, _, _, _, _, z8⟩, _⟩ := hC.out _ _ _ hE5; rw [hL3.out] at z8; obtain ⟨gb, cp, hdv1, hcl1⟩ := hD.out _ _ _ _ (by rw [hL2.out]; exact (hgi.out b).1) hE5; rw [hL3.out, hL2.out, (hgi.out b).2] at hdv1; cases hdv1; have cB := Lib.hid (hB.out _ _ _ _ _ (by rw [hL2.out]; exact (hgi.out b).1) hE5 hgx.out hA5); clear hA5; have hOt := Lib.hid (hO4.out.trans' hO5 hf4.out); clear hE5 hO5)
  go_wp2_with (go_at_call 97; (with_reducible refine cB.out.mono ?_); rintro e w6 ⟨rfl, hx3⟩; replace hx3 := Lib.hid hx3)
  go_ret
  exact ⟨rfl, hfin.out _ (epost_trans hOt.out hf4.out hx3.out)⟩
end Go.Proofs.YtjfmbjgniajagaaGreatDoor
