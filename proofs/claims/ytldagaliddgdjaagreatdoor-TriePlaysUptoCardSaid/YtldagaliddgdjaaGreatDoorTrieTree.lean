/- Package trie: a forest as a tree: what each one wants, way by way. No program in sight. -/
import Derived.Test.YtldagaliddgdjaaGreatDoorTrieAdd
namespace Go.Proofs.YtldagaliddgdjaaGreatDoor
open Go.RowKit

theorem aGet_putG {κ α : Type} [BEq κ] [LawfulBEq κ] [DecidableEq κ] (l : List (κ × α)) (k j : κ) (v : α) : aGet (aPut l k v) j = if j = k then some v else aGet l j := by
  induction l with
  | nil =>
    by_cases h : j = k
    · subst h; simp [aPut, aGet]
    · have h2 : ¬ k = j := fun e => h e.symm
      simp [aPut, aGet, h, h2]
  | cons p r ih =>
    unfold aPut
    by_cases hk : p.1 == k
    · have hp : p.1 = k := by simpa using hk
      rw [if_pos hk]
      by_cases h : j = k
      · subst h; simp [aGet]
      · have h2 : ¬ k = j := fun e => h e.symm
        simp [aGet, hp, h, h2]
    · rw [if_neg hk]
      have hp : ¬ p.1 = k := by simpa using hk
      by_cases hj : p.1 = j
      · have h : ¬ j = k := fun e => hp (hj.trans e)
        simp [aGet, hj, h]
      · have e1 : aGet (p :: aPut r k v) j = aGet (aPut r k v) j := by simp [aGet, hj]
        have e2 : aGet (p :: r) j = aGet r j := by simp [aGet, hj]
        rw [e1, e2, ih]
theorem snoc_ind {α : Type} {p : List α → Prop} (h0 : p []) (h1 : ∀ A y, p A → p (A ++ [y])) (L : List α) : p L := by
  have h : ∀ M : List α, p M.reverse := fun M => by
    induction M with
    | nil => exact h0
    | cons y r ih => rw [List.reverse_cons]; exact h1 _ _ ih
  have := h L.reverse
  rwa [List.reverse_reverse] at this
/-- What somebody wants at the end of a way. -/
def want (N : Nodes) (c : Nat) (L : List ByteArray) (k : Int) : Option Int := (reachN N c L).bind fun d => whoN N d k
theorem reachN_nil (N : Nodes) (c : Nat) : reachN N c [] = some c := rfl
theorem reachN_cons (N : Nodes) (c : Nat) (x : ByteArray) (r : List ByteArray) : reachN N c (x :: r) = (nSub N c x).bind fun d => reachN N d r := by
  conv => lhs; unfold reachN
  cases nSub N c x <;> rfl
theorem reachN_append (N : Nodes) : ∀ (A B : List ByteArray) (c : Nat), reachN N c (A ++ B) = (reachN N c A).bind fun d => reachN N d B
  | [], B, c => rfl
  | x :: A, B, c => by
    rw [List.cons_append, reachN_cons, reachN_cons]
    cases nSub N c x with
    | none => rfl
    | some d => exact reachN_append N A B d
theorem reachN_snoc (N : Nodes) (A : List ByteArray) (y : ByteArray) (c : Nat) : reachN N c (A ++ [y]) = (reachN N c A).bind fun d => nSub N d y := by
  rw [reachN_append]
  congr 1; funext d
  rw [reachN_cons]
  cases nSub N d y <;> rfl
theorem want_cons (N : Nodes) (c : Nat) (x : ByteArray) (r : List ByteArray) (k : Int) : want N c (x :: r) k = (nSub N c x).bind fun d => want N d r k := by
  unfold want
  rw [reachN_cons]
  cases nSub N c x <;> rfl
/-- To each level leads one way. -/
def OneWay (N : Nodes) (r : Nat) : Prop := ∀ L1 L2 e, reachN N r L1 = some e → reachN N r L2 = some e → L1 = L2
/-- No way is longer. -/
def Low (N : Nodes) (r : Nat) (d : Nat) : Prop := ∀ L e, reachN N r L = some e → L.length ≤ d
theorem snoc_ne {α : Type} {A P : List α} {y : α} (h : A ++ [y] = P) : A ≠ P := fun e => by
  have := congrArg List.length h
  rw [e] at this
  simp at this
theorem snoc_inj {α : Type} {A P : List α} {x y : α} (h : A ++ [y] = P ++ [x]) : A = P ∧ y = x := by
  have := List.append_inj' h rfl
  exact ⟨this.1, by simpa using this.2⟩

/-! ### a new level -/
theorem nSub_put {N : Nodes} {c : Nat} {x : ByteArray} {m : Node} (hm : ¬ Has N m.blk) (hc : Has N c) (e : Nat) (he : Has N e) (y : ByteArray) : nSub (nPut (m :: N) c x m.blk) e y = if e = c ∧ y = x then some m.blk else nSub N e y := by
  have hme : m.blk ≠ e := fun h => hm (h ▸ he)
  have hf : nFind (m :: N) e = nFind N e := by
    unfold nFind
    rw [List.find?_cons, show (m.blk == e) = false by simpa using hme]
  unfold nSub
  rw [nFind_put, hf]
  cases hn : nFind N e with
  | none =>
    obtain ⟨a, ha, hb⟩ := he
    have := List.find?_eq_none.1 hn a ha
    simp [hb] at this
  | some n =>
    have hb := (nFind_mem hn).2
    simp only [Option.map_some, Option.bind_some]
    by_cases hec : e = c
    · subst hec
      rw [if_pos hb]
      by_cases hy : y = x
      · subst hy
        rw [if_pos ⟨rfl, rfl⟩, aGet_putG, if_pos rfl]
      · rw [if_neg (fun h => hy h.2), aGet_putG, if_neg hy]
    · rw [if_neg (fun h => hec (hb.symm.trans h)), if_neg (fun h => hec h.1)]
theorem nSub_put_new {N : Nodes} {c : Nat} {x : ByteArray} {m : Node} (hs : m.sub = []) (hmc : m.blk ≠ c) (y : ByteArray) : nSub (nPut (m :: N) c x m.blk) m.blk y = none := by
  have hf : nFind (m :: N) m.blk = some m := by
    unfold nFind
    rw [List.find?_cons]
    simp
  unfold nSub
  rw [nFind_put, hf]
  simp [hmc, hs, aGet]
theorem whoN_put {N : Nodes} {c : Nat} {x : ByteArray} {m : Node} (hm : ¬ Has N m.blk) (e : Nat) (he : Has N e) (k : Int) : whoN (nPut (m :: N) c x m.blk) e k = whoN N e k := by
  have hme : m.blk ≠ e := fun h => hm (h ▸ he)
  have hf : nFind (m :: N) e = nFind N e := by
    unfold nFind
    rw [List.find?_cons, show (m.blk == e) = false by simpa using hme]
  unfold whoN
  rw [nFind_put, hf]
  cases nFind N e with
  | none => rfl
  | some n => simp only [Option.map_some, Option.bind_some]; split <;> rfl
theorem whoN_put_new {N : Nodes} {c : Nat} {x : ByteArray} {m : Node} (hw : m.ws = []) (k : Int) : whoN (nPut (m :: N) c x m.blk) m.blk k = none := by
  have hf : nFind (m :: N) m.blk = some m := by
    unfold nFind
    rw [List.find?_cons]
    simp
  unfold whoN
  rw [nFind_put, hf]
  simp only [Option.map_some, Option.bind_some]
  split <;> simp [hw, aGet]
theorem reach_has {N : Nodes} (hc : Closed' N) {r : Nat} (hr : Has N r) {L : List ByteArray} {e : Nat} (h : reachN N r L = some e) : Has N e := reachN_has hc L hr h
theorem reach_put {N : Nodes} {r c : Nat} {x : ByteArray} {m : Node} {P : List ByteArray} (hC : Closed' N) (hr : Has N r) (hw : OneWay N r) (hP : reachN N r P = some c) (hx : nSub N c x = none) (hs : m.sub = []) (hm : ¬ Has N m.blk) :
    ∀ L, reachN (nPut (m :: N) c x m.blk) r L = if L = P ++ [x] then some m.blk else reachN N r L := by
  have hc : Has N c := reach_has hC hr hP
  have hmc : m.blk ≠ c := fun h => hm (h ▸ hc)
  intro L
  induction L using snoc_ind with
  | h0 => rw [if_neg (by simp)]; rfl
  | h1 A y ih =>
    rw [reachN_snoc, ih, reachN_snoc]
    by_cases hA : A = P ++ [x]
    · rw [if_pos hA, Option.bind_some, nSub_put_new hs hmc, if_neg (fun h => snoc_ne h hA), hA, reachN_snoc, hP, Option.bind_some, hx]
      rfl
    · rw [if_neg hA]
      cases he : reachN N r A with
      | none =>
        rw [if_neg (fun h => by rw [(snoc_inj h).1, hP] at he; cases he)]
        rfl
      | some e =>
        simp only [Option.bind_some]
        rw [nSub_put hm hc e (reach_has hC hr he)]
        have hiff : (e = c ∧ y = x) ↔ A ++ [y] = P ++ [x] := by
          constructor
          · rintro ⟨rfl, rfl⟩; rw [hw A P e he hP]
          · intro h
            obtain ⟨rfl, rfl⟩ := snoc_inj h
            rw [hP] at he
            exact ⟨(Option.some.inj he).symm, rfl⟩
        by_cases h : e = c ∧ y = x
        · rw [if_pos h, if_pos (hiff.1 h)]
        · rw [if_neg h, if_neg (fun hh => h (hiff.2 hh))]
theorem way_put {N : Nodes} {r c : Nat} {x : ByteArray} {m : Node} {P : List ByteArray} (hC : Closed' N) (hr : Has N r) (hw : OneWay N r) (hP : reachN N r P = some c) (hx : nSub N c x = none) (hs : m.sub = []) (hm : ¬ Has N m.blk) : OneWay (nPut (m :: N) c x m.blk) r := by
  have R := reach_put hC hr hw hP hx hs hm
  intro L1 L2 e h1 h2
  rw [R] at h1 h2
  by_cases a1 : L1 = P ++ [x]
  · by_cases a2 : L2 = P ++ [x]
    · rw [a1, a2]
    · rw [if_pos a1] at h1
      rw [if_neg a2] at h2
      exact absurd (reach_has hC hr (h1 ▸ h2)) (by cases h1; exact hm)
  · by_cases a2 : L2 = P ++ [x]
    · rw [if_neg a1] at h1
      rw [if_pos a2] at h2
      cases h2
      exact absurd (reach_has hC hr h1) hm
    · rw [if_neg a1] at h1
      rw [if_neg a2] at h2
      exact hw L1 L2 e h1 h2
theorem want_put {N : Nodes} {r c : Nat} {x : ByteArray} {m : Node} {P : List ByteArray} (hC : Closed' N) (hr : Has N r) (hw : OneWay N r) (hP : reachN N r P = some c) (hx : nSub N c x = none) (hs : m.sub = []) (hws : m.ws = []) (hm : ¬ Has N m.blk) (L : List ByteArray) (k : Int) :
    want (nPut (m :: N) c x m.blk) r L k = want N r L k := by
  unfold want
  rw [reach_put hC hr hw hP hx hs hm]
  by_cases hL : L = P ++ [x]
  · rw [if_pos hL, hL, reachN_snoc, hP, Option.bind_some, Option.bind_some, whoN_put_new hws, hx]
    rfl
  · rw [if_neg hL]
    cases he : reachN N r L with
    | none => rfl
    | some e => simp only [Option.bind_some]; exact whoN_put hm e (reach_has hC hr he) k

/-- What growing comes to. -/
theorem grown_sem {N N' : Nodes} {c c' : Nat} {L : List ByteArray} (hG : Grown N c L N' c') : ∀ {r : Nat} {P : List ByteArray}, Closed' N → Has N r → OneWay N r → reachN N r P = some c →
    Closed' N' ∧ Has N' r ∧ OneWay N' r ∧ reachN N' r (P ++ L) = some c' ∧ (∀ L2 k, want N' r L2 k = want N r L2 k) ∧ (∀ D, Low N r D → (P ++ L).length ≤ D → Low N' r D) := by
  induction hG with
  | nil N c => intro r P hC hr hw hP; exact ⟨hC, hr, hw, by rw [List.append_nil]; exact hP, fun _ _ => rfl, fun D h _ => h⟩
  | @old N N' c d c' x rr h k ih =>
    intro r P hC hr hw hP
    obtain ⟨h1, h2, h3, h4, h5, h6⟩ := ih (r := r) (P := P ++ [x]) hC hr hw (by rw [reachN_snoc, hP]; exact h)
    rw [List.append_assoc] at h4 h6
    exact ⟨h1, h2, h3, h4, h5, h6⟩
  | @new N N' c c' x rr m h hs hws hd k ih =>
    intro r P hC hr hw hP
    have hm : ¬ Has N m.blk := by
      rintro ⟨a, ha, hb⟩
      simp only [feet, List.flatMap_cons] at hd
      rw [List.nodup_append] at hd
      exact hd.2.2 m.blk (by simp [Node.foot]) m.blk (foot_feet ha (by simp [Node.foot, hb])) rfl
    have hc : Has N c := reach_has hC hr hP
    have R := reach_put hC hr hw hP h hs hm
    have hmH : Has (m :: N) m.blk := ⟨m, List.mem_cons_self .., rfl⟩
    obtain ⟨h1, h2, h3, h4, h5, h6⟩ := ih (r := r) (P := P ++ [x]) (closed_put (closed_cons hC hs) hmH) (has_put (has_cons hr)) (way_put hC hr hw hP h hs hm) (by rw [R, if_pos rfl])
    rw [List.append_assoc] at h4 h6
    refine ⟨h1, h2, h3, h4, fun L2 k => (h5 L2 k).trans (want_put hC hr hw hP h hs hws hm L2 k), fun D hD hl => h6 D (fun L e he => ?_) hl⟩
    rw [R] at he
    by_cases hL : L = P ++ [x]
    · rw [hL]; simp at hl ⊢; omega
    · rw [if_neg hL] at he
      exact hD L e he

/-! ### somebody wants something -/
theorem nSub_who (N : Nodes) (c : Nat) (k v : Int) (e : Nat) (y : ByteArray) : nSub (nWho N c k v) e y = nSub N e y := by
  unfold nSub
  rw [nFind_who]
  cases nFind N e with
  | none => rfl
  | some n => simp only [Option.map_some, Option.bind_some]; split <;> rfl
theorem reach_who (N : Nodes) (c : Nat) (k v : Int) : ∀ (L : List ByteArray) (e : Nat), reachN (nWho N c k v) e L = reachN N e L
  | [], e => rfl
  | x :: r, e => by
    rw [reachN_cons, reachN_cons, nSub_who]
    congr 1; funext d
    exact reach_who N c k v r d
theorem want_who {N : Nodes} {r c : Nat} {L : List ByteArray} (hC : Closed' N) (hr : Has N r) (hw : OneWay N r) (hL : reachN N r L = some c) (hf : (feet N).Nodup) (k v : Int) (L2 : List ByteArray) (k2 : Int) : want (nWho N c k v) r L2 k2 = if L2 = L ∧ k2 = k then some v else want N r L2 k2 := by
  unfold want
  rw [reach_who]
  cases he : reachN N r L2 with
  | none =>
    rw [if_neg (fun h => by rw [h.1, hL] at he; cases he)]
    rfl
  | some e =>
    simp only [Option.bind_some]
    obtain ⟨n, hn, _, hb⟩ := (reach_has hC hr he).find hf
    unfold whoN
    rw [nFind_who, hn]
    simp only [Option.map_some, Option.bind_some]
    by_cases hec : e = c
    · have hLL : L2 = L := hw L2 L e he (hec ▸ hL)
      rw [if_pos (hb.trans hec)]
      by_cases hk : k2 = k
      · rw [if_pos ⟨hLL, hk⟩, hk, aGet_putG, if_pos rfl]
      · rw [if_neg (fun h => hk h.2), aGet_putG, if_neg hk]
    · rw [if_neg (fun h => hec (hb.symm.trans h)), if_neg (fun h => hec (by rw [h.1, hL] at he; exact (Option.some.inj he).symm))]
theorem way_who {N : Nodes} {r c : Nat} {k v : Int} (hw : OneWay N r) : OneWay (nWho N c k v) r := fun L1 L2 e h1 h2 => hw L1 L2 e (by rwa [reach_who] at h1) (by rwa [reach_who] at h2)
theorem low_who {N : Nodes} {r c D : Nat} {k v : Int} (hw : Low N r D) : Low (nWho N c k v) r D := fun L e h => hw L e (by rwa [reach_who] at h)
end Go.Proofs.YtldagaliddgdjaaGreatDoor
