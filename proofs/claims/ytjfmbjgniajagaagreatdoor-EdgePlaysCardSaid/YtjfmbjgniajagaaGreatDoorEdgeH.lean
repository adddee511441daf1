/- Package edge: a node of the call's own, step by step. -/
import Derived.Test.YtjfmbjgniajagaaGreatDoorEdgeTake
import Derived.Test.YtjfmbjgniajagaaGreatDoorEdgeView
namespace Go.Proofs.YtjfmbjgniajagaaGreatDoor
open Go.RowKit

/-- A node that was made behind w0. -/
def EH (w0 wr : World) (n : Nat) (g nm : ByteArray) (s : EN) : Prop := ∃ L, EdgeAt wr n g nm L s ∧ (∀ x ∈ L.feet n, w0.heap.size ≤ x) ∧ Own [] w0 wr
theorem EH.nil' {w0 wr w' : World} {n : Nat} {g nm : ByteArray} {s : EN} (h : EH w0 wr n g nm s) (ho : Own [] wr w') : EH w0 w' n g nm s := by
  obtain ⟨L, h1, h2, h3⟩ := h
  exact ⟨L, h1.nil' ho, h2, h3.trans ho⟩
theorem EH.own {w0 wr : World} {n : Nat} {g nm : ByteArray} {s : EN} (h : EH w0 wr n g nm s) : Own [] w0 wr := by
  obtain ⟨L, h1, h2, h3⟩ := h
  exact h3
theorem EH.step {w0 wr w' : World} {n : Nat} {g nm : ByteArray} {s' : EN} {L : EW} (h2 : ∀ x ∈ L.feet n, w0.heap.size ≤ x) (h3 : Own [] w0 wr) (h : ∃ L', EdgeAt w' n g nm L' s' ∧ Own (L.feet n) wr w' ∧ (∀ x ∈ L'.feet n, x ∈ L.feet n ∨ wr.heap.size ≤ x)) : EH w0 w' n g nm s' := by
  obtain ⟨L', k1, k2, k3⟩ := h
  refine ⟨L', k1, fun x hx => ?_, h3.trans' k2 (fun x hx => .inr (h2 x hx))⟩
  rcases k3 x hx with h4 | h4
  · exact h2 x h4
  · exact Nat.le_trans h3.size h4
theorem EH.post {w0 wr : World} {n : Nat} {g nm : ByteArray} {L : EW} {r : Int × EN} (h2 : ∀ x ∈ L.feet n, w0.heap.size ≤ x) (h3 : Own [] w0 wr) {e : Ending} {w' : World} (h : EPost n g nm L r wr e w') : e = .returned (.int .i64 r.1) ∧ EH w0 w' n g nm r.2 := ⟨h.1, EH.step h2 h3 h.2⟩
theorem EH.new (g nm : ByteArray) (w : World) (hg : g.toList.isEmpty = false) (hn : nm.toList.isEmpty = false) :
    Calls Tryz.prog 9 #[.string g, .string nm] w fun e w' => ∃ n, e = .returned (.tuple #[.pointer (some ⟨n, 0, none⟩), .int .i64 0]) ∧ EH w w' n g nm ⟨false, 0, 0, false, false, [], [], []⟩ :=
  (enew_any g nm w hg hn).mono fun _ _ ⟨n, L, h1, h2, h3, h4⟩ => ⟨n, h1, L, h2, h3, h4⟩
theorem EH.take1 {w0 wr : World} {n : Nat} {g nm : ByteArray} {s : EN} (dn : ByteArray) (p : Pay) (h : EH w0 wr n g nm s) (hM : MetsAt wr p.a p.M) (h0 : 0 ≤ p.s) (hE : Errs w0) :
    Calls Tryz.prog 10 #[.pointer (some ⟨n, 0, none⟩), .int .i64 1, .string dn, p.val] wr fun e w' => e = .returned (.int .i64 (ePend (eBirth s p)).1) ∧ EH w0 w' n g nm (ePend (eBirth s p)).2 := by
  obtain ⟨L, h1, h2, h3⟩ := h
  exact (take1_any n g nm L s dn p wr h1 hM h0 (hE.nil h3)).mono fun _ _ hp => EH.post h2 h3 hp
theorem EH.take3 {w0 wr : World} {n : Nat} {g nm : ByteArray} {s : EN} (dn : ByteArray) (p : Pay) (h : EH w0 wr n g nm s) (hM : MetsAt wr p.a p.M) (h0 : 0 ≤ p.s) (hE : Errs w0) :
    Calls Tryz.prog 10 #[.pointer (some ⟨n, 0, none⟩), .int .i64 3, .string dn, p.val] wr fun e w' => e = .returned (.int .i64 (ePend (eData s p)).1) ∧ EH w0 w' n g nm (ePend (eData s p)).2 := by
  obtain ⟨L, h1, h2, h3⟩ := h
  exact (take3_any n g nm L s dn p wr h1 hM h0 (hE.nil h3)).mono fun _ _ hp => EH.post h2 h3 hp
theorem EH.pending {w0 wr : World} {n : Nat} {g nm : ByteArray} {s : EN} (h : EH w0 wr n g nm s) : Calls Tryz.prog 11 #[.pointer (some ⟨n, 0, none⟩)] wr fun e w' => e = .returned (.bool s.pending) ∧ wr = w' := by
  obtain ⟨L, h1, h2, h3⟩ := h
  exact epending_any n g nm L s wr h1
theorem EH.view {w0 wr : World} {n : Nat} {g nm : ByteArray} {s : EN} (h : EH w0 wr n g nm s) : Calls Tryz.prog 12 #[.pointer (some ⟨n, 0, none⟩)] wr fun e w' => ∃ a cap va vn vc V, e = .returned (.agg #[.string g, .string nm, .bool s.online, .int .i64 (bdV s), .int .i64 (nextV s), .bool s.pending, .slice a s.items.length cap, .slice va vn vc]) ∧
    (OutRow wr.heap.size w' a cap s.items ∧ Sl 56 vEnc 3 wr.heap.size w' (.slice va vn vc) V ∧ DVs wr.heap.size w' V s.dev) ∧ Own [] wr w' ∧ EH w0 w' n g nm s := by
  obtain ⟨L, h1, h2, h3⟩ := h
  refine (view_any n g nm L s wr h1).mono ?_
  rintro e w' ⟨a, cap, vv, V, rfl, k1, k2, k3, k4⟩
  obtain ⟨va, vc, rfl⟩ := k2.sl
  exact ⟨a, cap, va, _, vc, V, rfl, ⟨k1, k2, k3⟩, k4, L, h1.nil' k4, h2, h3.trans k4⟩
end Go.Proofs.YtjfmbjgniajagaaGreatDoor
