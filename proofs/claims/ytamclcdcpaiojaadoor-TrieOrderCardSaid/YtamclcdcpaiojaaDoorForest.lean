/- Package trie: its levels on the heap, as a list. -/
import Derived.Test.YtamclcdcpaiojaaDoorChecked
import Derived.Test.YtamclcdcpaiojaaDoorMaps
import Derived.Handy
namespace Go.Proofs.YtamclcdcpaiojaaDoor
open Go.RowKit

/-- A level: its block, its two maps, what they hold. -/
structure Node where
  blk : Nat
  bel : Nat
  who : Nat
  sub : List (ByteArray × Nat)
  ws : List (Int × Int)
def pEnc (c : Nat) : Value := .pointer (some ⟨c, 0, none⟩)
def Node.foot (n : Node) : List Nat := [n.blk, n.bel, n.who]
structure NodeAt (w : World) (n : Node) : Prop where
  row : w.heap[n.blk]? = some (.cells #[.map (some n.bel), .map (some n.who)] 58 (0, 0))
  sub : MapP Value.string pEnc w n.bel n.sub
  ws : MapP (Value.int .i64) (Value.int .i64) w n.who n.ws
abbrev Nodes := List Node
def feet (N : Nodes) : List Nat := N.flatMap Node.foot
structure Forest (w : World) (N : Nodes) : Prop where
  at_ : ∀ n ∈ N, NodeAt w n
  apart : (feet N).Nodup
theorem NodeAt.own {S : List Nat} {w w' : World} {n : Node} (h : NodeAt w n) (ho : Own S w w') (hn : ∀ x ∈ n.foot, x ∉ S) : NodeAt w' n :=
  ⟨ho.heap h.row (hn _ (by simp [Node.foot])), h.sub.own ho (hn _ (by simp [Node.foot])), h.ws.own ho (hn _ (by simp [Node.foot]))⟩
theorem NodeAt.lt {w : World} {n : Node} (h : NodeAt w n) : ∀ x ∈ n.foot, x < w.heap.size := by
  intro x hx
  simp [Node.foot] at hx
  rcases hx with rfl | rfl | rfl
  · exact lt_of_heap h.row
  · exact h.sub.lt
  · exact h.ws.lt
theorem foot_feet {N : Nodes} {n : Node} (h : n ∈ N) {x : Nat} (hx : x ∈ n.foot) : x ∈ feet N := List.mem_flatMap.2 ⟨n, h, hx⟩
theorem Forest.own {S : List Nat} {w w' : World} {N : Nodes} (h : Forest w N) (ho : Own S w w') (hn : ∀ x ∈ feet N, x ∉ S) : Forest w' N :=
  ⟨fun n hm => (h.at_ n hm).own ho fun x hx => hn x (foot_feet hm hx), h.apart⟩
theorem Forest.nil' {w w' : World} {N : Nodes} (h : Forest w N) (ho : Own [] w w') : Forest w' N := h.own ho (by simp)
theorem Forest.lt {w : World} {N : Nodes} (h : Forest w N) : ∀ x ∈ feet N, x < w.heap.size := by
  intro x hx
  obtain ⟨n, hm, hx⟩ := List.mem_flatMap.1 hx
  exact (h.at_ n hm).lt x hx
/-- Two levels that share a block are one. -/
theorem feet_apart {N : Nodes} (h : (feet N).Nodup) {n m : Node} (hn : n ∈ N) (hm : m ∈ N) {x : Nat} (hx : x ∈ n.foot) (hy : x ∈ m.foot) : n = m := by
  induction N with
  | nil => cases hn
  | cons a r ih =>
    simp only [feet, List.flatMap_cons] at h
    rw [List.nodup_append] at h
    obtain ⟨_, h2, h3⟩ := h
    rcases List.mem_cons.1 hn with rfl | hn'
    · rcases List.mem_cons.1 hm with rfl | hm'
      · rfl
      · exact absurd rfl (h3 x hx x (foot_feet hm' hy))
    · rcases List.mem_cons.1 hm with rfl | hm'
      · exact absurd rfl (h3 x hy x (foot_feet hn' hx))
      · exact ih h2 hn' hm'
theorem foot_nodup {N : Nodes} (h : (feet N).Nodup) {n : Node} (hn : n ∈ N) : n.foot.Nodup := by
  induction N with
  | nil => cases hn
  | cons a r ih =>
    simp only [feet, List.flatMap_cons] at h
    rw [List.nodup_append] at h
    rcases List.mem_cons.1 hn with rfl | hn'
    · exact h.1
    · exact ih h.2.1 hn'
def nFind (N : Nodes) (c : Nat) : Option Node := N.find? fun n => n.blk == c
theorem nFind_mem {N : Nodes} {c : Nat} {n : Node} (h : nFind N c = some n) : n ∈ N ∧ n.blk = c := ⟨List.mem_of_find?_eq_some h, by simpa using List.find?_some h⟩
theorem nFind_of {N : Nodes} (h : (feet N).Nodup) {n : Node} (hn : n ∈ N) : nFind N n.blk = some n := by
  cases hf : nFind N n.blk with
  | none =>
    have := List.find?_eq_none.1 hf n hn
    simp at this
  | some m =>
    obtain ⟨h1, h2⟩ := nFind_mem hf
    rw [feet_apart h h1 hn (x := n.blk) (by simp [Node.foot, h2]) (by simp [Node.foot])]
/-- The level below. -/
def nSub (N : Nodes) (c : Nat) (x : ByteArray) : Option Nat := (nFind N c).bind fun n => aGet n.sub x
/-- What stands below is a level. -/
def Closed' (N : Nodes) : Prop := ∀ n ∈ N, ∀ p ∈ n.sub, ∃ m ∈ N, m.blk = p.2
def Has (N : Nodes) (c : Nat) : Prop := ∃ n ∈ N, n.blk = c
theorem Has.find {N : Nodes} {c : Nat} (h : Has N c) (ha : (feet N).Nodup) : ∃ n, nFind N c = some n ∧ n ∈ N ∧ n.blk = c := by
  obtain ⟨n, hn, rfl⟩ := h
  exact ⟨n, nFind_of ha hn, hn, rfl⟩
theorem nSub_has {N : Nodes} (hc : Closed' N) {c d : Nat} {x : ByteArray} (h : nSub N c x = some d) : Has N d := by
  unfold nSub at h
  cases hf : nFind N c with
  | none => rw [hf] at h; cases h
  | some n =>
    rw [hf] at h
    exact hc n (nFind_mem hf).1 _ (aGet_mem h)
def reachN (N : Nodes) : Nat → List ByteArray → Option Nat
  | c, [] => some c
  | c, x :: r => match nSub N c x with | some d => reachN N d r | none => none

theorem subK : KeyKind Tryd.prog 9 Value.string := string_kind Tryd.underlying9
theorem whoK : KeyKind Tryd.prog 3 (Value.int .i64) := int_kind Tryd.underlying3
theorem subT : Tryd.prog.underlying 55 = some (.map 9 47) := Tryd.underlying55
theorem whoT : Tryd.prog.underlying 56 = some (.map 3 3) := Tryd.underlying56
theorem subZ (w : World) : (zeroValue 47).run Tryd.prog w = .ok (.pointer none) w := by kernel_rfl
theorem whoZ (w : World) : (zeroValue 3).run Tryd.prog w = .ok (.int .i64 0) w := by kernel_rfl
/-- A pointer to a level, or to none. -/
def optP : Option Nat → Value
  | some c => .pointer (some ⟨c, 0, none⟩)
  | none => .pointer none
theorem NodeAt.look {w : World} {n : Node} (h : NodeAt w n) (x : ByteArray) : (Instr.lookup 55 (.map (some n.bel)) (.string x) false).run Tryd.prog w = .ok (optP (aGet n.sub x)) w := by
  cases hg : aGet n.sub x with
  | none => exact h.sub.lookup_no subK subT x (subZ _) hg false
  | some d => exact h.sub.lookup_yes subK subT x hg false
theorem NodeAt.look2 {w : World} {n : Node} (h : NodeAt w n) (x : ByteArray) : (Instr.lookup 55 (.map (some n.bel)) (.string x) true).run Tryd.prog w = .ok (.tuple #[optP (aGet n.sub x), .bool (aGet n.sub x).isSome]) w := by
  cases hg : aGet n.sub x with
  | none => exact h.sub.lookup_no subK subT x (subZ _) hg true
  | some d => exact h.sub.lookup_yes subK subT x hg true
theorem NodeAt.cells {w : World} {n : Node} (h : NodeAt w n) : w.cell? ⟨n.blk, 0, none⟩ = some (.map (some n.bel)) ∧ w.cell? ⟨n.blk, 1, none⟩ = some (.map (some n.who)) := ⟨cell_of_row w _ 0 _ _ _ h.row, cell_of_row w _ 1 _ _ _ h.row⟩

/-! ### growing -/
def nPut (N : Nodes) (c : Nat) (x : ByteArray) (d : Nat) : Nodes := N.map fun n => if n.blk = c then { n with sub := aPut n.sub x d } else n
def nWho (N : Nodes) (c : Nat) (k v : Int) : Nodes := N.map fun n => if n.blk = c then { n with ws := aPut n.ws k v } else n
theorem feet_map {f : Node → Node} (hf : ∀ n, (f n).foot = n.foot) (N : Nodes) : feet (N.map f) = feet N := by
  unfold feet
  rw [List.flatMap_map]
  congr 1
  funext n
  exact hf n
theorem feet_put (N : Nodes) (c : Nat) (x : ByteArray) (d : Nat) : feet (nPut N c x d) = feet N := feet_map (fun n => by split <;> rfl) N
theorem feet_who (N : Nodes) (c : Nat) (k v : Int) : feet (nWho N c k v) = feet N := feet_map (fun n => by split <;> rfl) N
theorem nFind_map {f : Node → Node} (hf : ∀ n, (f n).blk = n.blk) (N : Nodes) (c : Nat) : nFind (N.map f) c = (nFind N c).map f := by
  unfold nFind
  rw [List.find?_map]
  congr 1
  congr 1
  funext n
  simp [hf]
theorem nFind_put (N : Nodes) (c : Nat) (x : ByteArray) (d c2 : Nat) : nFind (nPut N c x d) c2 = (nFind N c2).map fun n => if n.blk = c then { n with sub := aPut n.sub x d } else n := nFind_map (fun n => by split <;> rfl) N c2
theorem nFind_who (N : Nodes) (c : Nat) (k v : Int) (c2 : Nat) : nFind (nWho N c k v) c2 = (nFind N c2).map fun n => if n.blk = c then { n with ws := aPut n.ws k v } else n := nFind_map (fun n => by split <;> rfl) N c2
/-- A level's map of those below takes an entry. -/
theorem Forest.put {w : World} {N : Nodes} (h : Forest w N) {n : Node} (hn : n ∈ N) (x : ByteArray) (d : Nat) :
    ∃ w', (Instr.mapUpdate 55 (.map (some n.bel)) (.string x) (.pointer (some ⟨d, 0, none⟩))).run Tryd.prog w = .ok () w' ∧ Forest w' (nPut N n.blk x d) ∧ Own [n.bel] w w' := by
  obtain ⟨w', hr, hM, hO, _⟩ := (h.at_ n hn).sub.update subK subT x d
  refine ⟨w', hr, ⟨?_, by rw [feet_put]; exact h.apart⟩, hO⟩
  intro m hm
  obtain ⟨a, ha, rfl⟩ := List.mem_map.1 hm
  by_cases hab : a.blk = n.blk
  · have := feet_apart h.apart ha hn (x := a.blk) (by simp [Node.foot]) (by simp [Node.foot, hab])
    subst this
    rw [if_pos rfl]
    have hd := h.at_ a ha
    have nd := foot_nodup h.apart ha
    simp [Node.foot] at nd
    exact ⟨hO.heap hd.row (by simp; exact nd.1.1), hM, hd.ws.own hO (by simp; exact fun e => nd.2 e.symm)⟩
  · rw [if_neg hab]
    refine (h.at_ a ha).own hO fun y hy hy2 => ?_
    simp at hy2
    subst hy2
    have := feet_apart h.apart ha hn hy (by simp [Node.foot])
    subst this
    exact hab rfl
theorem Forest.putWho {w : World} {N : Nodes} (h : Forest w N) {n : Node} (hn : n ∈ N) (k v : Int) :
    ∃ w', (Instr.mapUpdate 56 (.map (some n.who)) (.int .i64 k) (.int .i64 v)).run Tryd.prog w = .ok () w' ∧ Forest w' (nWho N n.blk k v) ∧ Own [n.who] w w' := by
  obtain ⟨w', hr, hM, hO, _⟩ := (h.at_ n hn).ws.update whoK whoT k v
  refine ⟨w', hr, ⟨?_, by rw [feet_who]; exact h.apart⟩, hO⟩
  intro m hm
  obtain ⟨a, ha, rfl⟩ := List.mem_map.1 hm
  by_cases hab : a.blk = n.blk
  · have := feet_apart h.apart ha hn (x := a.blk) (by simp [Node.foot]) (by simp [Node.foot, hab])
    subst this
    rw [if_pos rfl]
    have hd := h.at_ a ha
    have nd := foot_nodup h.apart ha
    simp [Node.foot] at nd
    exact ⟨hO.heap hd.row (by simp; exact nd.1.2), hd.sub.own hO (by simp; exact nd.2), hM⟩
  · rw [if_neg hab]
    refine (h.at_ a ha).own hO fun y hy hy2 => ?_
    simp at hy2
    subst hy2
    have := feet_apart h.apart ha hn hy (by simp [Node.foot])
    subst this
    exact hab rfl
theorem aPut_memG {κ α : Type} [BEq κ] {l : List (κ × α)} {k : κ} {v : α} {p : κ × α} (h : p ∈ aPut l k v) : p = (k, v) ∨ p ∈ l := by
  induction l with
  | nil => simp [aPut] at h; exact .inl h
  | cons q r ih =>
    unfold aPut at h
    split at h
    · rcases List.mem_cons.1 h with h | h
      · exact .inl h
      · exact .inr (List.mem_cons_of_mem _ h)
    · rcases List.mem_cons.1 h with h | h
      · exact .inr (h ▸ List.mem_cons_self ..)
      · rcases ih h with h | h
        · exact .inl h
        · exact .inr (List.mem_cons_of_mem _ h)
theorem has_map {f : Node → Node} (hf : ∀ n, (f n).blk = n.blk) {N : Nodes} {d : Nat} (h : Has N d) : Has (N.map f) d := by
  obtain ⟨n, hn, rfl⟩ := h
  exact ⟨f n, List.mem_map_of_mem hn, hf n⟩
theorem has_put {N : Nodes} {c : Nat} {x : ByteArray} {d e : Nat} (h : Has N e) : Has (nPut N c x d) e := has_map (fun n => by split <;> rfl) h
theorem has_who {N : Nodes} {c : Nat} {k v : Int} {e : Nat} (h : Has N e) : Has (nWho N c k v) e := has_map (fun n => by split <;> rfl) h
theorem has_cons {N : Nodes} {m : Node} {e : Nat} (h : Has N e) : Has (m :: N) e := by
  obtain ⟨n, hn, rfl⟩ := h
  exact ⟨n, List.mem_cons_of_mem _ hn, rfl⟩
theorem closed_put {N : Nodes} (h : Closed' N) {c : Nat} {x : ByteArray} {d : Nat} (hd : Has N d) : Closed' (nPut N c x d) := by
  intro m hm p hp
  obtain ⟨a, ha, rfl⟩ := List.mem_map.1 hm
  have : ∃ b ∈ N, b.blk = p.2 := by
    split at hp
    · rcases aPut_memG hp with rfl | hp
      · exact hd
      · exact h a ha p hp
    · exact h a ha p hp
  exact has_put this
theorem closed_who {N : Nodes} (h : Closed' N) {c : Nat} {k v : Int} : Closed' (nWho N c k v) := by
  intro m hm p hp
  obtain ⟨a, ha, rfl⟩ := List.mem_map.1 hm
  have : ∃ b ∈ N, b.blk = p.2 := by
    split at hp
    · exact h a ha p hp
    · exact h a ha p hp
  exact has_who this
theorem closed_cons {N : Nodes} (h : Closed' N) {m : Node} (hm : m.sub = []) : Closed' (m :: N) := by
  intro a ha p hp
  rcases List.mem_cons.1 ha with rfl | ha
  · rw [hm] at hp; cases hp
  · exact has_cons (h a ha p hp)
theorem Forest.cons {w : World} {N : Nodes} (h : Forest w N) {m : Node} (hm : NodeAt w m) (hd : (feet (m :: N)).Nodup) : Forest w (m :: N) :=
  ⟨fun n hn => by rcases List.mem_cons.1 hn with rfl | hn; exact hm; exact h.at_ n hn, hd⟩
inductive Grown : Nodes → Nat → List ByteArray → Nodes → Nat → Prop
  | nil (N : Nodes) (c : Nat) : Grown N c [] N c
  | old {N N' : Nodes} {c d c' : Nat} {x : ByteArray} {r : List ByteArray} (h : nSub N c x = some d) (k : Grown N d r N' c') : Grown N c (x :: r) N' c'
  | new {N N' : Nodes} {c c' : Nat} {x : ByteArray} {r : List ByteArray} (m : Node) (h : nSub N c x = none) (hs : m.sub = []) (hw : m.ws = []) (hd : (feet (m :: N)).Nodup) (k : Grown (nPut (m :: N) c x m.blk) m.blk r N' c') : Grown N c (x :: r) N' c'
end Go.Proofs.YtamclcdcpaiojaaDoor
