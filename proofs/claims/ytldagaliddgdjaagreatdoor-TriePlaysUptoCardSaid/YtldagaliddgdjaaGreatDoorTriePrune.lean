/- Package trie: taking a wish away, and the levels that nobody wants any more. No program in sight. -/
import Derived.Test.YtldagaliddgdjaaGreatDoorTrieTree
namespace Go.Proofs.YtldagaliddgdjaaGreatDoor
open Go.RowKit

theorem aGet_delG {κ α : Type} [BEq κ] [LawfulBEq κ] [DecidableEq κ] (l : List (κ × α)) (k j : κ) : aGet (aDel l k) j = if j = k then none else aGet l j := by
  unfold aGet aDel
  rw [List.find?_filter]
  by_cases h : j = k
  · rw [if_pos h, List.find?_eq_none.2 (by
      intro p _ h1
      simp at h1
      exact h1.1 (h1.2.trans h))]
    rfl
  · rw [if_neg h]
    congr 1
    refine congrArg (fun q => List.find? q l) ?_
    funext p
    by_cases hp : p.1 = j
    · have : ¬ p.1 = k := fun e => h (hp.symm.trans e)
      simp [hp, h]
    · simp [hp]
def nDel (N : Nodes) (c : Nat) (k : Int) : Nodes := N.map fun n => if n.blk = c then { n with ws := aDel n.ws k } else n
def nCut (N : Nodes) (c : Nat) (x : ByteArray) : Nodes := N.map fun n => if n.blk = c then { n with sub := aDel n.sub x } else n
/-- Nobody wants it, nor what stands below. -/
def emptyN (N : Nodes) (c : Nat) : Bool := match nFind N c with | some n => n.sub.isEmpty && n.ws.isEmpty | none => true
theorem feet_del (N : Nodes) (c : Nat) (k : Int) : feet (nDel N c k) = feet N := feet_map (fun n => by split <;> rfl) N
theorem feet_cut (N : Nodes) (c : Nat) (x : ByteArray) : feet (nCut N c x) = feet N := feet_map (fun n => by split <;> rfl) N
theorem nFind_del (N : Nodes) (c : Nat) (k : Int) (e : Nat) : nFind (nDel N c k) e = (nFind N e).map fun n => if n.blk = c then { n with ws := aDel n.ws k } else n := nFind_map (fun n => by split <;> rfl) N e
theorem nFind_cut (N : Nodes) (c : Nat) (x : ByteArray) (e : Nat) : nFind (nCut N c x) e = (nFind N e).map fun n => if n.blk = c then { n with sub := aDel n.sub x } else n := nFind_map (fun n => by split <;> rfl) N e
theorem has_del {N : Nodes} {c : Nat} {k : Int} {e : Nat} (h : Has N e) : Has (nDel N c k) e := has_map (fun n => by split <;> rfl) h
theorem has_cut {N : Nodes} {c : Nat} {x : ByteArray} {e : Nat} (h : Has N e) : Has (nCut N c x) e := has_map (fun n => by split <;> rfl) h
theorem closed_del {N : Nodes} (h : Closed' N) {c : Nat} {k : Int} : Closed' (nDel N c k) := by
  intro m hm p hp
  obtain ⟨a, ha, rfl⟩ := List.mem_map.1 hm
  have : ∃ b ∈ N, b.blk = p.2 := by
    split at hp
    · exact h a ha p hp
    · exact h a ha p hp
  exact has_del this
theorem closed_cut {N : Nodes} (h : Closed' N) {c : Nat} {x : ByteArray} : Closed' (nCut N c x) := by
  intro m hm p hp
  obtain ⟨a, ha, rfl⟩ := List.mem_map.1 hm
  have : ∃ b ∈ N, b.blk = p.2 := by
    split at hp
    · exact h a ha p (List.mem_filter.1 hp).1
    · exact h a ha p hp
  exact has_cut this
theorem nSub_del (N : Nodes) (c : Nat) (k : Int) (e : Nat) (y : ByteArray) : nSub (nDel N c k) e y = nSub N e y := by
  unfold nSub
  rw [nFind_del]
  cases nFind N e with
  | none => rfl
  | some n => simp only [Option.map_some, Option.bind_some]; split <;> rfl
theorem reach_del (N : Nodes) (c : Nat) (k : Int) : ∀ (L : List ByteArray) (e : Nat), reachN (nDel N c k) e L = reachN N e L
  | [], e => rfl
  | x :: r, e => by
    rw [reachN_cons, reachN_cons, nSub_del]
    congr 1; funext d
    exact reach_del N c k r d
theorem want_del {N : Nodes} {r c : Nat} {L : List ByteArray} (hw : OneWay N r) (hL : reachN N r L = some c) (k : Int) (L2 : List ByteArray) (k2 : Int) : want (nDel N c k) r L2 k2 = if L2 = L ∧ k2 = k then none else want N r L2 k2 := by
  unfold want
  rw [reach_del]
  cases he : reachN N r L2 with
  | none =>
    rw [if_neg (fun h => by rw [h.1, hL] at he; cases he)]
    rfl
  | some e =>
    simp only [Option.bind_some]
    unfold whoN
    rw [nFind_del]
    cases hn : nFind N e with
    | none => simp
    | some n =>
      have hb := (nFind_mem hn).2
      simp only [Option.map_some, Option.bind_some]
      by_cases hec : e = c
      · have hLL : L2 = L := hw L2 L e he (hec ▸ hL)
        rw [if_pos (hb.trans hec)]
        by_cases hk : k2 = k
        · rw [if_pos ⟨hLL, hk⟩, hk, aGet_delG, if_pos rfl]
        · rw [if_neg (fun h => hk h.2), aGet_delG, if_neg hk]
      · rw [if_neg (fun h => hec (hb.symm.trans h)), if_neg (fun h => hec (by rw [h.1, hL] at he; exact (Option.some.inj he).symm))]
theorem whoN_cut (N : Nodes) (c : Nat) (x : ByteArray) (e : Nat) (k : Int) : whoN (nCut N c x) e k = whoN N e k := by
  unfold whoN
  rw [nFind_cut]
  cases nFind N e with
  | none => rfl
  | some n => simp only [Option.map_some, Option.bind_some]; split <;> rfl
theorem nSub_cut (N : Nodes) (c : Nat) (x : ByteArray) (e : Nat) (y : ByteArray) : nSub (nCut N c x) e y = if e = c ∧ y = x then none else nSub N e y := by
  unfold nSub
  rw [nFind_cut]
  cases hn : nFind N e with
  | none => simp
  | some n =>
    have hb := (nFind_mem hn).2
    simp only [Option.map_some, Option.bind_some]
    by_cases hec : e = c
    · rw [if_pos (hb.trans hec)]
      by_cases hy : y = x
      · rw [if_pos ⟨hec, hy⟩, hy, aGet_delG, if_pos rfl]
      · rw [if_neg (fun h => hy h.2), aGet_delG, if_neg hy]
    · rw [if_neg (fun h => hec (hb.symm.trans h)), if_neg (fun h => hec h.1)]
theorem empty_sub {N : Nodes} {d : Nat} (h : emptyN N d = true) (y : ByteArray) : nSub N d y = none := by
  unfold emptyN at h
  unfold nSub
  cases hn : nFind N d with
  | none => rfl
  | some n =>
    rw [hn] at h
    simp only [Bool.and_eq_true, List.isEmpty_iff] at h
    simp [h.1, aGet]
theorem empty_who {N : Nodes} {d : Nat} (h : emptyN N d = true) (k : Int) : whoN N d k = none := by
  unfold emptyN at h
  unfold whoN
  cases hn : nFind N d with
  | none => rfl
  | some n =>
    rw [hn] at h
    simp only [Bool.and_eq_true, List.isEmpty_iff] at h
    simp [h.2, aGet]
/-- An empty level is cut off. -/
theorem reach_cut {N : Nodes} {r c d : Nat} {x : ByteArray} {P : List ByteArray} (hw : OneWay N r) (hP : reachN N r P = some c) (hx : nSub N c x = some d) (hE : emptyN N d = true) : ∀ L, reachN (nCut N c x) r L = if L = P ++ [x] then none else reachN N r L := by
  intro L
  induction L using snoc_ind with
  | h0 => rw [if_neg (by simp)]; rfl
  | h1 A y ih =>
    rw [reachN_snoc, ih, reachN_snoc]
    by_cases hA : A = P ++ [x]
    · rw [if_pos hA, if_neg (fun h => snoc_ne h hA), hA, reachN_snoc, hP, Option.bind_some, hx, Option.bind_some, empty_sub hE]
      rfl
    · rw [if_neg hA]
      cases he : reachN N r A with
      | none => simp
      | some e =>
        simp only [Option.bind_some]
        rw [nSub_cut]
        have hiff : (e = c ∧ y = x) ↔ A ++ [y] = P ++ [x] := by
          constructor
          · rintro ⟨rfl, rfl⟩; rw [hw A P e he hP]
          · intro h
            obtain ⟨rfl, rfl⟩ := snoc_inj h
            rw [hP] at he
            exact ⟨(Option.some.inj he).symm, rfl⟩
        by_cases h : e = c ∧ y = x
        · rw [if_pos h, if_pos (hiff.1 h)]
        · rw [if_neg h, if_neg (fun hh => h (hiff.2 hh))]
inductive Pruned (k : Int) : Nodes → Nat → List ByteArray → Nodes → Bool → Prop
  | here (N : Nodes) (c : Nat) : Pruned k N c [] (nDel N c k) (emptyN (nDel N c k) c)
  | keep {N N' : Nodes} {c d : Nat} {x : ByteArray} {r : List ByteArray} (h : nSub N c x = some d) (q : Pruned k N d r N' false) : Pruned k N c (x :: r) N' (emptyN N' c)
  | cut {N N' : Nodes} {c d : Nat} {x : ByteArray} {r : List ByteArray} (h : nSub N c x = some d) (q : Pruned k N d r N' true) : Pruned k N c (x :: r) (nCut N' c x) (emptyN (nCut N' c x) c)
theorem pruned_bit {k : Int} {N N' : Nodes} {c : Nat} {L : List ByteArray} {b : Bool} (h : Pruned k N c L N' b) : b = emptyN N' c := by cases h <;> rfl
theorem pruned_sem {k : Int} {N N' : Nodes} {c : Nat} {L : List ByteArray} {b : Bool} (hG : Pruned k N c L N' b) : ∀ {r : Nat} {P : List ByteArray}, Closed' N → Has N r → OneWay N r → reachN N r P = some c → (want N r (P ++ L) k).isSome = true →
    Closed' N' ∧ Has N' r ∧ OneWay N' r ∧ (∀ A e, reachN N' r A = some e → reachN N r A = some e) ∧ (∀ A, A.length ≤ P.length → reachN N' r A = reachN N r A) ∧ (∀ L2 k2, want N' r L2 k2 = if L2 = P ++ L ∧ k2 = k then none else want N r L2 k2) := by
  induction hG with
  | here c =>
    intro r P hC hr hw hP _
    rw [List.append_nil]
    exact ⟨closed_del hC, has_del hr, fun L1 L2 e h1 h2 => hw L1 L2 e (by rwa [reach_del] at h1) (by rwa [reach_del] at h2), fun A e h => by rwa [reach_del] at h, fun A _ => reach_del N c k A r, fun L2 k2 => want_del hw hP k L2 k2⟩
  | @keep N' c d x rr h q ih =>
    intro r P hC hr hw hP hs
    have hP2 : reachN N r (P ++ [x]) = some d := by rw [reachN_snoc, hP]; exact h
    rw [show P ++ x :: rr = (P ++ [x]) ++ rr by simp] at hs ⊢
    obtain ⟨h1, h2, h3, h4, h5, h6⟩ := ih hC hr hw hP2 hs
    exact ⟨h1, h2, h3, h4, fun A hA => h5 A (by simp; omega), h6⟩
  | @cut N' c d x rr h q ih =>
    intro r P hC hr hw hP hs
    have hP2 : reachN N r (P ++ [x]) = some d := by rw [reachN_snoc, hP]; exact h
    rw [show P ++ x :: rr = (P ++ [x]) ++ rr by simp] at hs ⊢
    obtain ⟨h1, h2, h3, h4, h5, h6⟩ := ih hC hr hw hP2 hs
    have hE : emptyN N' d = true := (pruned_bit q).symm
    have hPc : reachN N' r P = some c := (h5 P (by simp)).trans hP
    have hPd : reachN N' r (P ++ [x]) = some d := (h5 _ (Nat.le_refl _)).trans hP2
    have hx : nSub N' c x = some d := by rw [reachN_snoc, hPc] at hPd; exact hPd
    have R := reach_cut h3 hPc hx hE
    refine ⟨closed_cut h1, has_cut h2, fun L1 L2 e a1 a2 => ?_, fun A e a => ?_, fun A hA => ?_, fun L2 k2 => ?_⟩
    · rw [R] at a1 a2
      split at a1
      · cases a1
      · split at a2
        · cases a2
        · exact h3 L1 L2 e a1 a2
    · rw [R] at a
      split at a
      · cases a
      · exact h4 A e a
    · rw [R, if_neg (fun e => by rw [e] at hA; simp at hA; omega)]
      exact h5 A (by simp; omega)
    · rw [← h6]
      unfold want
      rw [R]
      by_cases hL : L2 = P ++ [x]
      · rw [if_pos hL, hL, hPd]
        simp only [Option.bind_none, Option.bind_some]
        exact (empty_who hE k2).symm
      · rw [if_neg hL]
        cases reachN N' r L2 with
        | none => rfl
        | some e => simp only [Option.bind_some]; exact whoN_cut N' c x e k2
end Go.Proofs.YtldagaliddgdjaaGreatDoor
