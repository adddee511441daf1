/- Package edge: a node as it is known; where it lies. -/
import Derived.Test.YtjfmbjgniajagaaGreatDoorPayBd
import Derived.Test.YtjfmbjgniajagaaGreatDoorItemsBorn2
import Derived.Test.YtjfmbjgniajagaaGreatDoorItemsAwake
import Derived.Test.YtjfmbjgniajagaaGreatDoorAliasSet
import Derived.Test.YtjfmbjgniajagaaGreatDoorAliasDrop
import Derived.Test.YtjfmbjgniajagaaGreatDoorSq
import Derived.Test.YtjfmbjgniajagaaGreatDoorNew
import Derived.Deep.QuietTactic
import Derived.BigQuiet
namespace Go.Proofs.YtjfmbjgniajagaaGreatDoor
open Go.RowKit

/-- A device. -/
structure Dev where
  name : ByteArray
  on : Bool
  items : List Itm
/-- A node. -/
structure EN where
  online : Bool
  bd : Int
  want : Int
  begun : Bool
  pending : Bool
  items : List Itm
  al : ATab
  dev : List Dev
/-- Where a device lies. -/
structure DW where
  blk : Nat
  a : Option Addr
  cap : Nat
  lives : Int
/-- Where the parts of a node lie. -/
structure EW where
  rb : Nat
  tb : Nat
  tm : Nat
  ia : Option Addr
  ic : Nat
  dv : Value
  ds : List DW
def blkOf (a : Option Addr) : List Nat := (a.map (·.block)).toList
def dEnc (d : DW) : List Value := [.pointer (some ⟨d.blk, 0, none⟩)]
theorem dEnc_len (d : DW) : (dEnc d).length = 1 := rfl
def DevAt (w : World) (d : DW) (x : Dev) : Prop :=
  w.heap[d.blk]? = some (.cells #[.string x.name, .bool x.on, .slice d.a x.items.length d.cap, .int .i64 d.lives] 99 (0, 0)) ∧ OutRow 0 w d.a d.cap x.items ∧ x.name.toList.isEmpty = false ∧ x.items.length ≤ 32
def EW.feet (L : EW) (n : Nat) : List Nat := n :: L.rb :: L.tb :: L.tm :: (blkOf L.ia ++ (L.dv.ownBlock.toList ++ L.ds.flatMap fun d => d.blk :: blkOf d.a))
def edgeRow (g nm : ByteArray) (L : EW) (s : EN) : Array Value := #[.string g, .string nm, .bool s.online, .int .i64 s.bd, .pointer (some ⟨L.rb, 0, none⟩), .bool s.pending, .slice L.ia s.items.length L.ic, .pointer (some ⟨L.tb, 0, none⟩), L.dv]
structure EdgeAt (w : World) (n : Nat) (g nm : ByteArray) (L : EW) (s : EN) : Prop where
  row : w.heap[n]? = some (.cells (edgeRow g nm L s) 75 (0, 0))
  rrow : Sq.RowAt w L.rb s.want s.begun
  tab : Tab w L.tb L.tm s.al
  its : OutRow 0 w L.ia L.ic s.items
  dvs : Sl 86 dEnc 1 0 w L.dv L.ds
  len : s.dev.length = L.ds.length
  devs : ∀ (i : Nat) d x, L.ds[i]? = some d → s.dev[i]? = some x → DevAt w d x
  apart : (L.feet n).Nodup
  few : s.items.length ≤ 32 ∧ s.al.length ≤ 64 ∧ s.dev.length ≤ 4
theorem blkOf_mem {a : Option Addr} {b : Nat} (h : a.map (·.block) = some b) : b ∈ blkOf a := by unfold blkOf; rw [h]; simp
theorem EdgeAt.own {S : List Nat} {w w' : World} {n : Nat} {g nm : ByteArray} {L : EW} {s : EN} (h : EdgeAt w n g nm L s) (ho : Own S w w') (hS : ∀ x ∈ L.feet n, x ∉ S) : EdgeAt w' n g nm L s := by
  have h1 : ∀ b, L.ia.map (·.block) = some b → b ∉ S := fun b hb => hS b (by unfold EW.feet; simp [blkOf_mem hb])
  refine ⟨ho.heap h.row (hS n (by unfold EW.feet; simp)), h.rrow.own ho (hS _ (by unfold EW.feet; simp)), h.tab.own ho (hS _ (by unfold EW.feet; simp)) (hS _ (by unfold EW.feet; simp)), h.its.own' ho h1, h.dvs.own ho (fun b hb => hS b (by unfold EW.feet; simp [hb])), h.len, fun i d x hd hx => ?_, h.apart, h.few⟩
  obtain ⟨k1, k2, k3⟩ := h.devs i d x hd hx
  have hm : d ∈ L.ds := List.mem_of_getElem? hd
  have hf : ∀ b, b ∈ d.blk :: blkOf d.a → b ∉ S := fun b hb => hS b (by
    unfold EW.feet
    simp only [List.mem_cons, List.mem_append, List.mem_flatMap]
    exact .inr (.inr (.inr (.inr (.inr (.inr ⟨d, hm, by simpa using hb⟩))))))
  exact ⟨ho.heap k1 (hf _ (by simp)), k2.own' ho (fun b hb => hf b (List.mem_cons_of_mem _ (blkOf_mem hb))), k3⟩
theorem EdgeAt.nil' {w w' : World} {n : Nat} {g nm : ByteArray} {L : EW} {s : EN} (h : EdgeAt w n g nm L s) (ho : Own [] w w') : EdgeAt w' n g nm L s := h.own ho (by simp)
theorem OutRow.blt {B : Nat} {w : World} {a : Option Addr} {cap : Nat} {L : List Itm} (h : OutRow B w a cap L) {b : Nat} (hb : a.map (·.block) = some b) : b < w.heap.size := by
  cases a with
  | none => cases hb
  | some q =>
    rcases h.own.2 with ⟨h1, _⟩ | ⟨g, cap', cur, he, _, hg, _⟩
    · cases h1
    · cases he
      cases hb
      exact lt_of_heap hg
theorem EdgeAt.lt {w : World} {n : Nat} {g nm : ByteArray} {L : EW} {s : EN} (h : EdgeAt w n g nm L s) : ∀ x ∈ L.feet n, x < w.heap.size := by
  intro x hx
  unfold EW.feet at hx
  simp only [List.mem_cons, List.mem_append, List.mem_flatMap] at hx
  rcases hx with rfl | rfl | rfl | rfl | hx | hx | ⟨d, hd, hx⟩
  · exact lt_of_heap h.row
  · exact lt_of_heap h.rrow.1
  · exact h.tab.lt.1
  · exact h.tab.lt.2
  · unfold blkOf at hx; exact h.its.blt (Option.mem_toList.1 hx)
  · exact (h.dvs.block (Option.mem_toList.1 hx)).2
  · obtain ⟨i, hi⟩ := List.getElem?_of_mem hd
    have hil : i < s.dev.length := by rw [h.len]; exact (List.getElem?_eq_some_iff.1 hi).1
    obtain ⟨k1, k2, _⟩ := h.devs i d _ hi (List.getElem?_eq_getElem hil)
    rcases hx with rfl | hx
    · exact lt_of_heap k1
    · unfold blkOf at hx; exact k2.blt (Option.mem_toList.1 hx)
/-- What a step comes to, and leaves. -/
def EPost (n : Nat) (g nm : ByteArray) (L : EW) (r : Int × EN) (w : World) (e : Ending) (w' : World) : Prop :=
  e = .returned (.int .i64 r.1) ∧ ∃ L', EdgeAt w' n g nm L' r.2 ∧ Own (L.feet n) w w' ∧ (∀ x ∈ L'.feet n, x ∈ L.feet n ∨ w.heap.size ≤ x)
theorem EdgeAt.same {n : Nat} {g nm : ByteArray} {L : EW} {s : EN} {w w' : World} (h : EdgeAt w n g nm L s) (ho : Own [] w w') : ∃ L', EdgeAt w' n g nm L' s ∧ Own (L.feet n) w w' ∧ (∀ x ∈ L'.feet n, x ∈ L.feet n ∨ w.heap.size ≤ x) :=
  ⟨L, h.nil' ho, ho.nil, fun _ hx => .inl hx⟩
theorem itemRow_of {w : World} {a : Option Addr} {L : List Itm} (h : ItemsAt w a L) : ItemRow w a L.length (itAt L) := by
  refine ⟨h.1, fun hl => ?_⟩
  obtain ⟨b, o, rfl, hb, hx⟩ := h.2 hl
  exact ⟨b, o, rfl, hb, fun i hi => hx i _ (itAt_get hi)⟩
theorem itList_self (L : List Itm) : itList L.length (itAt L) = L := by
  unfold itList
  refine List.ext_getElem? fun i => ?_
  rw [List.getElem?_map]
  by_cases hi : i < L.length
  · rw [List.getElem?_range hi, itAt_get hi]; rfl
  · rw [List.getElem?_eq_none (by simpa using hi), List.getElem?_eq_none (by simpa using hi)]; rfl

/-! ### what the steps come to -/
def clashC (e : Int) : Int := if e = 0 then 1 else if e = 16 then 10 else 8
def noName : ByteArray := ⟨#[]⟩
def eBirth (s : EN) (p : Pay) : Int × EN :=
  if p.bd.2 = false then (9, s) else if p.seq.2 = false then (4, s) else if (bornL p.M).1 ≠ 1 then ((bornL p.M).1, s)
  else if clashC (aSet [] noName (bornL p.M).2).1 ≠ 1 then (clashC (aSet [] noName (bornL p.M).2).1, s)
  else (1, ⟨true, p.bd.1, (p.seq.1 + 1) % 256, true, false, (bornL p.M).2, (aSet [] noName (bornL p.M).2).2, []⟩)
def eFits (s : EN) (p : Pay) : Bool := p.seq.2 && (s.begun && p.seq.1 == s.want)
def eData (s : EN) (p : Pay) : Int × EN :=
  if s.online = false then (5, s) else if eFits s p = false then (4, s)
  else if (updGo (aFind s.al noName) p.M s.items).1 ≠ 1 then ((updGo (aFind s.al noName) p.M s.items).1, s)
  else (1, { s with items := (updGo (aFind s.al noName) p.M s.items).2, want := (p.seq.1 + 1) % 256 })
def ePend (r : Int × EN) : Int × EN := if 3 ≤ r.1 then (r.1, { r.2 with pending := true }) else r
theorem smallN_ok (n : Int) (h0 : 0 ≤ n) : 0 ≤ (smallN n).1 ∧ (smallN n).1 < 256 := by unfold smallN; split <;> simp <;> omega
theorem Pay.seq_ok (p : Pay) (h0 : 0 ≤ p.s) : 0 ≤ p.seq.1 ∧ p.seq.1 < 256 := by unfold Pay.seq; split; exact smallN_ok _ h0; simp
theorem aSet_nil_len (l : ATab) (ow : ByteArray) (L : List Itm) (hl : l.length ≤ 64) : (aSet l ow L).2.length ≤ 64 := by
  unfold aSet aMay
  cases hf : aFresh ow L [] with
  | none => simp; exact hl
  | some want =>
    simp only
    by_cases h1 : aClash l ow want = true
    · simp [h1]; exact hl
    · by_cases h2 : 64 < (aOthers l ow).length + want.length
      · simp [h1, h2]; exact hl
      · simp [h1, h2]; omega
theorem updGo_len (F : Int → ByteArray × Bool) : ∀ (M : List Met) (L : List Itm), (updGo F M L).2.length ≤ L.length := by
  intro M
  induction M with
  | nil => intro L; simp [updGo]
  | cons m r ih =>
    intro L
    unfold updGo
    repeat' split
    all_goals first | simp | (refine Nat.le_trans (ih _) ?_; simp) | exact ih _
end Go.Proofs.YtjfmbjgniajagaaGreatDoor
