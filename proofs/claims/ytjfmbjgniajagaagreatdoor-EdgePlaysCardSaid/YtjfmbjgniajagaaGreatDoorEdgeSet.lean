/- Package edge: a node of which one part is another. -/
import Derived.Test.YtjfmbjgniajagaaGreatDoorEdgeIns
import Derived.Test.YtjfmbjgniajagaaGreatDoorDevHap
import Derived.Test.YtjfmbjgniajagaaGreatDoorRise
set_option linter.unusedSimpArgs false
set_option linter.unusedVariables false
namespace Go.Proofs.YtjfmbjgniajagaaGreatDoor
open Go.RowKit

def dFoot (d : DW) : List Nat := d.blk :: blkOf d.a
def EW.others (L : EW) (n i : Nat) : List Nat := n :: L.rb :: L.tb :: L.tm :: (blkOf L.ia ++ (L.dv.ownBlock.toList ++ (L.ds.eraseIdx i).flatMap dFoot))
theorem feet_dev (L : EW) (n i : Nat) {d : DW} (h : L.ds[i]? = some d) : (L.feet n).Perm (d.blk :: (blkOf d.a ++ L.others n i)) := by
  obtain ⟨hl, he⟩ := List.getElem?_eq_some_iff.1 h
  have hp : (L.ds.flatMap dFoot).Perm ((d :: L.ds.eraseIdx i).flatMap dFoot) := by
    rw [← he]
    exact ((cons_erase L.ds i hl).symm).flatMap_right _
  refine List.perm_iff_count.2 fun x => ?_
  have hc := hp.count_eq x
  rw [List.flatMap_cons] at hc
  have hd : dFoot d = d.blk :: blkOf d.a := rfl
  rw [hd] at hc
  have hf : (L.ds.flatMap fun d => d.blk :: blkOf d.a) = L.ds.flatMap dFoot := rfl
  unfold EW.feet EW.others
  rw [hf]
  simp only [List.count_cons, List.count_append] at hc ⊢
  omega
theorem nodup_repl {A A' R : List Nat} {B : Nat} (h : (A ++ R).Nodup) (hlt : ∀ x ∈ R, x < B) (hA : A'.Nodup) (hge : ∀ x ∈ A', B ≤ x) : (A' ++ R).Nodup :=
  List.nodup_append.2 ⟨hA, (List.nodup_append.1 h).2.1, fun x hx y hy e => by have := hge x hx; have := hlt y hy; omega⟩
theorem blkOf_nodup (a : Option Addr) : (blkOf a).Nodup := by unfold blkOf; cases a <;> simp
theorem mem_blkOf {a : Option Addr} {b : Nat} (h : b ∈ blkOf a) : a.map (·.block) = some b := by unfold blkOf at h; exact Option.mem_toList.1 h
theorem EdgeAt.setTab {w w' : World} {n : Nat} {g nm : ByteArray} {L : EW} {s : EN} (h : EdgeAt w n g nm L s) {al : ATab} (ho : Own [L.tb, L.tm] w w') (hT : Tab w' L.tb L.tm al) (hl : al.length ≤ 64) :
    EdgeAt w' n g nm L { s with al := al } := by
  have hA := h.apart
  unfold EW.feet at hA
  simp only [List.nodup_cons, List.mem_cons, List.mem_append, not_or] at hA
  obtain ⟨⟨a1, a2, a3, a4, a5, a6⟩, ⟨b2, b3, b4, b5, b6⟩, ⟨c3, c4, c5, c6⟩, ⟨d4, d5, d6⟩, _⟩ := hA
  have hno : ∀ x, x ≠ L.tb → x ≠ L.tm → x ∉ [L.tb, L.tm] := fun x h1 h2 => by simp [h1, h2]
  refine ⟨ho.heap h.row (hno _ a2 a3), h.rrow.own ho (hno _ b2 b3), hT, h.its.own' ho (fun b hb => hno b (fun e => c4 (e ▸ blkOf_mem hb)) (fun e => d4 (e ▸ blkOf_mem hb))), h.dvs.own ho (fun b hb => hno b (fun e => c5 (e ▸ by simp [hb])) (fun e => d5 (e ▸ by simp [hb]))), h.len, fun i d x hd hx => ?_, h.apart, ⟨h.few.1, hl, h.few.2.2⟩⟩
  have hm : d ∈ L.ds := List.mem_of_getElem? hd
  have k := h.devs i d x hd hx
  have hin : ∀ b, b ∈ dFoot d → b ≠ L.tb ∧ b ≠ L.tm := fun b hb => ⟨fun e => c6 (List.mem_flatMap.2 ⟨d, hm, e ▸ hb⟩), fun e => d6 (List.mem_flatMap.2 ⟨d, hm, e ▸ hb⟩)⟩
  exact k.own ho (hno _ (hin _ (List.mem_cons_self ..)).1 (hin _ (List.mem_cons_self ..)).2) (fun b hb => hno b (hin b (List.mem_cons_of_mem _ (blkOf_mem hb))).1 (hin b (List.mem_cons_of_mem _ (blkOf_mem hb))).2)
theorem erase_mem {ds : List DW} {i j : Nat} {d : DW} (h : ds[j]? = some d) (hij : i ≠ j) : d ∈ ds.eraseIdx i := by
  rw [List.mem_eraseIdx_iff_getElem?]
  exact ⟨j, Ne.symm hij, h⟩
theorem rowOf_set {ds : List DW} {i : Nat} {d d' : DW} (h : ds[i]? = some d) (hb : d'.blk = d.blk) : rowOf dEnc (ds.set i d') = rowOf dEnc ds := by
  rw [rowOf_dEnc, rowOf_dEnc, List.map_set]
  obtain ⟨hl, he⟩ := List.getElem?_eq_some_iff.1 h
  rw [hb, ← he]
  have : (ds.map fun d => Value.pointer (some ⟨d.blk, 0, none⟩))[i]'(by simpa using hl) = .pointer (some ⟨ds[i].blk, 0, none⟩) := by simp
  rw [← this]
  exact List.set_getElem_self _
/-- One device is another. -/
theorem EdgeAt.setDev {w w' : World} {n : Nat} {g nm : ByteArray} {L : EW} {s : EN} (h : EdgeAt w n g nm L s) {i : Nat} {d d' : DW} {x' : Dev} (hi : L.ds[i]? = some d) (hP : DevAt w' d' x') (hb : d'.blk = d.blk) (ho : Own [d.blk] w w')
    (hf : ∀ b, d'.a.map (·.block) = some b → d.a.map (·.block) = some b ∨ w.heap.size ≤ b) :
    EdgeAt w' n g nm { L with ds := L.ds.set i d' } { s with dev := s.dev.set i x' } ∧ (∀ y ∈ ({ L with ds := L.ds.set i d' } : EW).feet n, y ∈ L.feet n ∨ w.heap.size ≤ y) := by
  have hp := feet_dev L n i hi
  obtain ⟨hl, he⟩ := List.getElem?_eq_some_iff.1 hi
  have hi' : ({ L with ds := L.ds.set i d' } : EW).ds[i]? = some d' := by simp [hl]
  have hp' := feet_dev { L with ds := L.ds.set i d' } n i hi'
  have hoe : ({ L with ds := L.ds.set i d' } : EW).others n i = L.others n i := by unfold EW.others; simp only [List.eraseIdx_set_eq]
  rw [hoe, hb] at hp'
  have hN := hp.nodup_iff.1 h.apart
  obtain ⟨hd1, hd2⟩ := List.nodup_cons.1 hN
  have hno : ∀ y ∈ L.others n i, y ∉ [d.blk] := fun y hy => by simp; rintro rfl; exact hd1 (List.mem_append_right _ hy)
  have hlt : ∀ y ∈ d.blk :: L.others n i, y < w.heap.size := fun y hy => h.lt y (hp.symm.subset (by rcases List.mem_cons.1 hy with h1 | h1; exact h1 ▸ List.mem_cons_self ..; exact List.mem_cons_of_mem _ (List.mem_append_right _ h1)))
  have hN' : (d.blk :: (blkOf d'.a ++ L.others n i)).Nodup := by
    by_cases hsame : ∃ b, d'.a.map (·.block) = some b ∧ d.a.map (·.block) = some b
    · obtain ⟨b, h1, h2⟩ := hsame
      have : blkOf d'.a = blkOf d.a := by unfold blkOf; rw [h1, h2]
      rw [this]; exact hN
    · have hge : ∀ y ∈ blkOf d'.a, w.heap.size ≤ y := fun y hy => by
        rcases hf y (mem_blkOf hy) with h1 | h1
        · exact absurd ⟨y, mem_blkOf hy, h1⟩ hsame
        · exact h1
      have hR : (d.blk :: L.others n i).Nodup := hN.sublist ((List.sublist_append_right _ _).cons_cons _)
      have := nodup_repl (A := []) (A' := blkOf d'.a) (R := d.blk :: L.others n i) hR hlt (blkOf_nodup _) hge
      exact (List.perm_middle (l₁ := blkOf d'.a) (l₂ := L.others n i) (a := d.blk)).nodup_iff.1 this
  have hsub : ∀ y ∈ ({ L with ds := L.ds.set i d' } : EW).feet n, y ∈ L.feet n ∨ w.heap.size ≤ y := fun y hy => by
    rcases List.mem_cons.1 (hp'.subset hy) with h1 | h1
    · exact .inl (hp.symm.subset (h1 ▸ List.mem_cons_self ..))
    · rcases List.mem_append.1 h1 with h2 | h2
      · rcases hf y (mem_blkOf h2) with h3 | h3
        · exact .inl (hp.symm.subset (List.mem_cons_of_mem _ (List.mem_append_left _ (blkOf_mem h3))))
        · exact .inr h3
      · exact .inl (hp.symm.subset (List.mem_cons_of_mem _ (List.mem_append_right _ h2)))
  have mo : ∀ y, y = n ∨ y = L.rb ∨ y = L.tb ∨ y = L.tm ∨ y ∈ blkOf L.ia ∨ y ∈ L.dv.ownBlock.toList → y ∉ [d.blk] := fun y hy => hno y (by
    unfold EW.others
    simp only [List.mem_cons, List.mem_append]
    rcases hy with h1 | h1 | h1 | h1 | h1 | h1 <;> simp [h1])
  have hdv : Sl 86 dEnc 1 0 w' L.dv (L.ds.set i d') := by
    have := h.dvs.own ho (fun b hb => mo b (by simp [hb]))
    unfold Sl at this ⊢
    rw [rowOf_set hi hb, List.length_set]
    exact this
  refine ⟨⟨ho.heap h.row (mo n (by simp)), h.rrow.own ho (mo _ (by simp)), h.tab.own ho (mo _ (by simp)) (mo _ (by simp)), h.its.own' ho (fun b hb => mo b (by simp [blkOf_mem hb])), hdv, by simp [h.len], fun j e x he hx => ?_, hp'.nodup_iff.2 hN', ⟨h.few.1, h.few.2.1, by simpa using h.few.2.2⟩⟩, hsub⟩
  by_cases hij : i = j
  · subst hij
    have hil : i < s.dev.length := by rw [h.len]; exact hl
    have q1 : (L.ds.set i d')[i]? = some d' := hi'
    have q2 : (s.dev.set i x')[i]? = some x' := by simp [hil]
    rw [show ({ L with ds := L.ds.set i d' } : EW).ds[i]? = (L.ds.set i d')[i]? from rfl, q1] at he
    rw [show ({ s with dev := s.dev.set i x' } : EN).dev[i]? = (s.dev.set i x')[i]? from rfl, q2] at hx
    cases he; cases hx
    exact hP
  · have q1 : L.ds[j]? = some e := by
      have : (L.ds.set i d')[j]? = some e := he
      rwa [List.getElem?_set_ne hij] at this
    have q2 : s.dev[j]? = some x := by
      have : (s.dev.set i x')[j]? = some x := hx
      rwa [List.getElem?_set_ne hij] at this
    have hm := erase_mem q1 hij
    have hin : ∀ b, b ∈ dFoot e → b ∉ [d.blk] := fun b hb => hno b (by
      unfold EW.others
      simp only [List.mem_cons, List.mem_append, List.mem_flatMap]
      exact .inr (.inr (.inr (.inr (.inr (.inr ⟨e, hm, hb⟩))))))
    exact (h.devs j e x q1 q2).own ho (hin _ (List.mem_cons_self ..)) (fun b hb => hin b (List.mem_cons_of_mem _ (blkOf_mem hb)))
end Go.Proofs.YtjfmbjgniajagaaGreatDoor
