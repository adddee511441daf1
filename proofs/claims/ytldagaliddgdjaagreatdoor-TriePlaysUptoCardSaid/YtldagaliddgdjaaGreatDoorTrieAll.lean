/- Package trie: all that somebody wants, as a list. No program in sight. -/
import Derived.Test.YtldagaliddgdjaaGreatDoorTriePrune
namespace Go.Proofs.YtldagaliddgdjaaGreatDoor
open Go.RowKit

def ownW (n : Node) (k : Int) : List (List ByteArray × Int) := match aGet n.ws k with | some q => [([], q)] | none => []
/-- All that somebody wants below a level, so deep. -/
def allN (N : Nodes) : Nat → Nat → Int → List (List ByteArray × Int)
  | 0, _, _ => []
  | f + 1, c, k => match nFind N c with | none => [] | some n => ownW n k ++ n.sub.flatMap fun p => (allN N f p.2 k).map fun e => (p.1 :: e.1, e.2)
theorem allN_succ (N : Nodes) (f c : Nat) (k : Int) {n : Node} (h : nFind N c = some n) : allN N (f + 1) c k = ownW n k ++ n.sub.flatMap fun p => (allN N f p.2 k).map fun e => (p.1 :: e.1, e.2) := by
  conv => lhs; unfold allN
  rw [h]
/-- Each level's keys are all different. -/
def KeysN (N : Nodes) : Prop := ∀ n ∈ N, (n.sub.map (·.1)).Nodup ∧ (n.ws.map (·.1)).Nodup
theorem aGet_of_mem {κ α : Type} [BEq κ] [LawfulBEq κ] {l : List (κ × α)} (hn : (l.map (·.1)).Nodup) {p : κ × α} (h : p ∈ l) : aGet l p.1 = some p.2 := by
  unfold aGet
  induction l with
  | nil => cases h
  | cons a r ih =>
    rw [List.map_cons, List.nodup_cons] at hn
    rw [List.find?_cons]
    rcases List.mem_cons.1 h with rfl | h
    · simp
    · have hne : ¬ a.1 = p.1 := fun e => hn.1 (by rw [e]; exact List.mem_map_of_mem (f := (·.1)) h)
      rw [show (a.1 == p.1) = false by simpa using hne]
      exact ih hn.2 h
theorem mem_all {N : Nodes} (hK : KeysN N) (k : Int) : ∀ (f c : Nat) (L : List ByteArray) (q : Int), (L, q) ∈ allN N f c k ↔ L.length < f ∧ want N c L k = some q
  | 0, c, L, q => by simp [allN]
  | f + 1, c, L, q => by
    cases hn : nFind N c with
    | none =>
      unfold allN
      rw [hn]
      constructor
      · intro h; cases h
      · rintro ⟨h1, h2⟩
        exfalso
        cases L with
        | nil =>
          unfold want whoN at h2
          rw [reachN_nil, Option.bind_some, hn] at h2
          cases h2
        | cons x r =>
          rw [want_cons] at h2
          unfold nSub at h2
          rw [hn] at h2
          cases h2
    | some n =>
      have hk := hK n (nFind_mem hn).1
      rw [allN_succ N f c k hn, List.mem_append, List.mem_flatMap]
      have hsub : ∀ x, nSub N c x = aGet n.sub x := fun x => by unfold nSub; rw [hn]; rfl
      have hwho : whoN N c k = aGet n.ws k := by unfold whoN; rw [hn]; rfl
      constructor
      · rintro (h | ⟨p, hp, h⟩)
        · unfold ownW at h
          cases hg : aGet n.ws k with
          | none => rw [hg] at h; cases h
          | some v =>
            rw [hg] at h
            simp at h
            obtain ⟨rfl, rfl⟩ := h
            refine ⟨by simp, ?_⟩
            unfold want
            rw [reachN_nil, Option.bind_some, hwho, hg]
        · obtain ⟨e, he, heq⟩ := List.mem_map.1 h
          cases heq
          obtain ⟨h1, h2⟩ := (mem_all hK k f p.2 e.1 e.2).1 he
          refine ⟨by simp; omega, ?_⟩
          rw [want_cons, hsub, aGet_of_mem hk.1 hp]
          exact h2
      · rintro ⟨h1, h2⟩
        cases L with
        | nil =>
          left
          unfold want at h2
          rw [reachN_nil, Option.bind_some, hwho] at h2
          unfold ownW
          rw [h2]
          simp
        | cons x r =>
          right
          rw [want_cons, hsub] at h2
          obtain ⟨d, hd, h2⟩ := Option.bind_eq_some_iff.1 h2
          exact ⟨(x, d), aGet_mem hd, List.mem_map.2 ⟨(r, q), (mem_all hK k f d r q).2 ⟨by simp at h1; omega, h2⟩, rfl⟩⟩
theorem nodup_flat {α β γ : Type} {g : α → List β} {key : β → γ} : ∀ {l : List α}, (∀ x ∈ l, ((g x).map key).Nodup) → l.Pairwise (fun x y => ∀ a ∈ g x, ∀ b ∈ g y, key a ≠ key b) → ((l.flatMap g).map key).Nodup
  | [], _, _ => by simp
  | x :: r, h1, h2 => by
    rw [List.pairwise_cons] at h2
    rw [List.flatMap_cons, List.map_append, List.nodup_append]
    refine ⟨h1 x (List.mem_cons_self ..), nodup_flat (fun y hy => h1 y (List.mem_cons_of_mem _ hy)) h2.2, ?_⟩
    intro a ha b hb e
    obtain ⟨a', ha', rfl⟩ := List.mem_map.1 ha
    obtain ⟨b', hb', rfl⟩ := List.mem_map.1 hb
    obtain ⟨y, hy, hby⟩ := List.mem_flatMap.1 hb'
    exact h2.1 y hy a' ha' b' hby e
theorem all_nodup {N : Nodes} (hK : KeysN N) (k : Int) : ∀ (f c : Nat), ((allN N f c k).map (·.1)).Nodup
  | 0, c => by simp [allN]
  | f + 1, c => by
    cases hn : nFind N c with
    | none => unfold allN; rw [hn]; simp
    | some n =>
      have hk := hK n (nFind_mem hn).1
      rw [allN_succ N f c k hn, List.map_append, List.nodup_append]
      refine ⟨?_, nodup_flat (fun p hp => ?_) ?_, ?_⟩
      · unfold ownW; split <;> simp
      · rw [List.map_map]
        have := all_nodup hK k f p.2
        have e : ((allN N f p.2 k).map ((fun x : List ByteArray × Int => x.1) ∘ fun e => (p.1 :: e.1, e.2))) = ((allN N f p.2 k).map (·.1)).map (p.1 :: ·) := by rw [List.map_map]; rfl
        rw [e]
        exact List.pairwise_map.2 (this.imp (fun {a b} hab e => hab (List.cons.inj e).2))
      · refine (List.pairwise_map.1 hk.1).imp ?_
        intro p q hpq a ha b hb e
        obtain ⟨a', _, rfl⟩ := List.mem_map.1 ha
        obtain ⟨b', _, rfl⟩ := List.mem_map.1 hb
        exact hpq (List.cons.inj e).1
      · intro a ha b hb e
        have h0 : a = [] := by
          unfold ownW at ha
          split at ha
          · simpa using ha
          · simp at ha
        obtain ⟨b', hb', rfl⟩ := List.mem_map.1 hb
        obtain ⟨p, hp, hbp⟩ := List.mem_flatMap.1 hb'
        obtain ⟨b2, _, rfl⟩ := List.mem_map.1 hbp
        rw [h0] at e
        cases e
theorem all_get {N : Nodes} (hK : KeysN N) (k : Int) {f c : Nat} (L : List ByteArray) (hL : L.length < f) : aGet (allN N f c k) L = want N c L k := by
  cases hw : want N c L k with
  | some q => exact aGet_of_mem (all_nodup hK k f c) ((mem_all hK k f c L q).2 ⟨hL, hw⟩)
  | none =>
    cases hg : aGet (allN N f c k) L with
    | none => rfl
    | some q =>
      have := ((mem_all hK k f c L q).1 (aGet_mem hg)).2
      rw [hw] at this
      cases this
/-- Two lists that say the same of each key are one, but for their order. -/
theorem get_perm {κ α : Type} [BEq κ] [LawfulBEq κ] [BEq α] [LawfulBEq α] {l l' : List (κ × α)} (h1 : (l.map (·.1)).Nodup) (h2 : (l'.map (·.1)).Nodup) (h : ∀ k, aGet l k = aGet l' k) : l.Perm l' := by
  have n1 : l.Nodup := (List.pairwise_map.1 h1).imp (fun {a b} hab e => hab (by rw [e]))
  have n2 : l'.Nodup := (List.pairwise_map.1 h2).imp (fun {a b} hab e => hab (by rw [e]))
  refine (List.perm_iff_count (l₁ := l) (l₂ := l')).2 fun p => ?_
  rw [n1.count, n2.count]
  have : p ∈ l ↔ p ∈ l' := by
    constructor
    · intro hp
      have := aGet_of_mem h1 hp
      rw [h] at this
      exact aGet_mem this
    · intro hp
      have := aGet_of_mem h2 hp
      rw [← h] at this
      exact aGet_mem this
  simp [this]
end Go.Proofs.YtldagaliddgdjaaGreatDoor
