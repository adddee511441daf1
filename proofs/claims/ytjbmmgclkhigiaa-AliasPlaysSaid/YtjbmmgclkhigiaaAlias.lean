/- Package alias: what each call does to a table. -/
import Derived.Test.YtjbmmgclkhigiaaRows
import Derived.Test.YtjbmmgclkhigiaaMaps
import Derived.Test.YtjbmmgclkhigiaaItm
import Derived.OpenShut
namespace Go.Proofs.Ytjbmmgclkhigiaa
open Go.RowKit

/-! ### plain -/
/-- What an alias stands for: owner, name. -/
abbrev Stands := ByteArray × ByteArray
abbrev ATab := List (Int × Stands)
def sVal (s : Stands) : Value := .agg #[.string s.1, .string s.2]
def aKey : Int → Value := Value.int .u64

/-- An owner's aliases as they would be. -/
def aFresh (ow : ByteArray) : List Itm → ATab → Option ATab
  | [], acc => some acc
  | x :: r, acc => if x.has then (match aGet acc x.al with
    | some _ => none
    | none => aFresh ow r (acc ++ [(x.al, (ow, x.name))])) else aFresh ow r acc
def aOthers (l : ATab) (ow : ByteArray) : ATab := l.filter fun p => !(p.2.1 == ow)
def aClash (l : ATab) (ow : ByteArray) (want : ATab) : Bool := (aOthers l ow).any fun p => (aGet want p.1).isSome
/-- Why an owner can't have these; what they would be. -/
def aMay (l : ATab) (ow : ByteArray) (items : List Itm) : Int × ATab :=
  match aFresh ow items [] with
  | none => (16, [])
  | some want => if aClash l ow want then (16, []) else if 64 < (aOthers l ow).length + want.length then (6, []) else (0, want)
def aSet (l : ATab) (ow : ByteArray) (items : List Itm) : Int × ATab :=
  if (aMay l ow items).1 = 0 then (0, aOthers l ow ++ (aMay l ow items).2) else ((aMay l ow items).1, l)
def aFind (l : ATab) (ow : ByteArray) (a : Int) : ByteArray × Bool :=
  match aGet l a with
  | none => (ByteArray.empty, false)
  | some s => if s.1 == ow then (s.2, true) else (ByteArray.empty, false)

/-! ### in memory -/
/-- A []api.Item: its elements. -/
def ItemRow (w : World) (a : Option Addr) (len : Nat) (its : Nat → Itm) : Prop :=
  len ≤ 140737488351232 ∧ (0 < len → ∃ b o, a = some ⟨b, o, none⟩ ∧ b < w.heap.size ∧ ∀ i, i < len → (its i).wf ∧ ∀ j v, (its i).cells[j]? = some v → w.cell? ⟨b, o + i * 8 + j, none⟩ = some v)
theorem ItemRow.keep {w w' : World} {a : Option Addr} {len : Nat} {its : Nat → Itm} (h : ItemRow w a len its) (hc : ∀ p : Addr, p.block < w.heap.size → w'.cell? p = w.cell? p) (hs : w.heap.size ≤ w'.heap.size) : ItemRow w' a len its := by
  obtain ⟨h1, h2⟩ := h
  refine ⟨h1, fun hl => ?_⟩
  obtain ⟨b, o, rfl, hb, hx⟩ := h2 hl
  exact ⟨b, o, rfl, by omega, fun i hi => ⟨(hx i hi).1, fun j v hj => (hc ⟨b, o + i * 8 + j, none⟩ hb).trans ((hx i hi).2 j v hj)⟩⟩
theorem ItemRow.own {w w' : World} {a : Option Addr} {len : Nat} {its : Nat → Itm} (h : ItemRow w a len its) (ho : Own [] w w') : ItemRow w' a len its :=
  h.keep (fun p hp => ho.cell hp (by simp)) ho.size
theorem ItemRow.below {w w' : World} {a : Option Addr} {len : Nat} {its : Nat → Itm} (h : ItemRow w a len its) (ho : Below w.heap.size w w') : ItemRow w' a len its :=
  h.keep (fun _ hp => ho.cell hp) ho.size

structure Tab (w : World) (b m : Nat) (l : ATab) : Prop where
  ne : b ≠ m
  row : w.heap[b]? = some (.cells #[.map (some m)] 56 (0, 0))
  map : MapP aKey sVal w m l
theorem Tab.own {S : List Nat} {w w' : World} {b m : Nat} {l : ATab} (h : Tab w b m l) (ho : Own S w w') (hb : b ∉ S) (hm : m ∉ S) : Tab w' b m l := ⟨h.ne, ho.heap h.row hb, h.map.own ho hm⟩
theorem Tab.perm {w : World} {b m : Nat} {l l' : ATab} (h : Tab w b m l) (hp : l.Perm l') : Tab w b m l' := ⟨h.ne, h.row, h.map.perm hp⟩
theorem Tab.lt {w : World} {b m : Nat} {l : ATab} (h : Tab w b m l) : b < w.heap.size ∧ m < w.heap.size := ⟨lt_of_heap h.row, h.map.lt⟩

theorem aKind : KeyKind Try.prog 23 aKey := int_kind Try.underlying23
theorem aMapT : Try.prog.underlying 54 = some (.map 23 62) := Try.underlying54
theorem aZero (w : World) : (zeroValue 62).run Try.prog w = .ok (.agg #[.string ⟨#[]⟩, .string ⟨#[]⟩]) w := by kernel_rfl
theorem Tab.nodup {w : World} {b m : Nat} {l : ATab} (h : Tab w b m l) : (l.map (·.1)).Nodup := h.map.nodup aKind

/-! ### walks -/
theorem none_no (b m : Nat) (w : World) (hm : w.cell? ⟨b, 0, none⟩ = some (.map (some m))) :
    Calls Try.prog 23 #[.pointer (some ⟨b, 0, none⟩)] w fun e w' => e = .returned (.bool false) ∧ w = w' := by
  have hq := fun w r => run_eql_map_nil w 54 23 62 r Try.underlying54
  go_enter Try.func23, Try.ntmps23
  go_wp2
  go_ret
  exact ⟨rfl, rfl⟩
theorem new_any (w : World) : Calls Try.prog 8 #[] w fun e w' => ∃ b m, e = .returned (.pointer (some ⟨b, 0, none⟩)) ∧ Tab w' b m [] ∧ w.heap.size ≤ b ∧ w.heap.size ≤ m ∧ Own [] w w' := by
  have hmm := @run_makeMap Try.prog
  go_enter Try.func8, Try.ntmps8
  go_wp2
  go_ret
  refine ⟨w.heap.size + 1, w.heap.size, rfl, ⟨by omega, heap_alloc2_new _ _ _, ?_⟩, by omega, Nat.le_refl _, ((Own.refl _ _).alloc _).alloc _⟩
  exact (MapP.made w).of_heap (Below.heap_alloc _ _ _ (by simp))
theorem len_any (b m : Nat) (l : ATab) (w : World) (h : Tab w b m l) :
    Calls Try.prog 11 #[.pointer (some ⟨b, 0, none⟩)] w fun e w' => e = .returned (.int .i64 l.length) ∧ w = w' := by
  have hm : w.cell? ⟨b, 0, none⟩ = some (.map (some m)) := cell_of_row w b 0 _ _ _ h.row
  have hlen := h.map.len_run aMapT
  clear h
  go_enter Try.func11, Try.ntmps11
  go_wp2_with ((go_at_call 23; refine (none_no _ _ _ hm).mono ?_; rintro e w' ⟨rfl, rfl⟩))
  go_ret
  exact ⟨rfl, rfl⟩
theorem find_any (b m : Nat) (l : ATab) (ow : ByteArray) (a : Int) (w : World) (h : Tab w b m l) :
    Calls Try.prog 10 #[.pointer (some ⟨b, 0, none⟩), .string ow, .int .u64 a] w fun e w' => e = .returned (.tuple #[.string (aFind l ow a).1, .bool (aFind l ow a).2]) ∧ Own [] w w' := by
  have hm : w.cell? ⟨b, 0, none⟩ = some (.map (some m)) := cell_of_row w b 0 _ _ _ h.row
  unfold aFind
  cases hg : aGet l a with
  | none =>
    have hlk := h.map.lookup_no aKind aMapT a (aZero w) hg true
    simp only [if_true, aKey] at hlk
    clear h hg
    go_enter Try.func10, Try.ntmps10
    go_wp2_with ((go_at_call 23; refine (none_no _ _ _ hm).mono ?_; rintro e w' ⟨rfl, rfl⟩))
    go_ret2
    exact ⟨rfl, (Own.refl _ _).alloc _⟩
  | some s =>
    obtain ⟨o, n⟩ := s
    have hlk := h.map.lookup_yes aKind aMapT a hg true
    simp only [if_true, aKey, sVal] at hlk
    clear h hg
    by_cases ho : o = ow
    · subst ho
      simp only [beq_self_eq_true, if_true]
      go_enter Try.func10, Try.ntmps10
      go_wp2_with ((go_at_call 23; refine (none_no _ _ _ hm).mono ?_; rintro e w' ⟨rfl, rfl⟩))
      go_ret2
      exact ⟨rfl, (Own.refl _ _).alloc _⟩
    · have ho1 : (o == ow) = false := by simpa using ho
      have ho2 : (o.toList == ow.toList) = false := by rw [← beq_toListBytes]; exact ho1
      simp only [ho1, Bool.false_eq_true, if_false]
      clear ho ho1
      go_enter Try.func10, Try.ntmps10
      go_wp2_with ((go_at_call 23; refine (none_no _ _ _ hm).mono ?_; rintro e w' ⟨rfl, rfl⟩))
      go_ret2
      exact ⟨rfl, (Own.refl _ _).alloc _⟩
end Go.Proofs.Ytjbmmgclkhigiaa
