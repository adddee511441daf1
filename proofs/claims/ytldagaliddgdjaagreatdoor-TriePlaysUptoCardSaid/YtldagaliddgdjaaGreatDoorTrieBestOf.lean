/- Package trie: who wants a name: the walk down the levels finds the greatest QoS of the filters that want it. No program in sight. -/
import Derived.Test.YtldagaliddgdjaaGreatDoorTrieOps2
import Derived.Test.YtldagaliddgdjaaGreatDoorMrg3
namespace Go.Proofs.YtldagaliddgdjaaGreatDoor
open Go.RowKit Go.Lib Go.Shelf Go.Sort

/-- The greatest of some numbers, if there are any. -/
def IsBest (S : Int → Prop) : Option Int → Prop
  | none => ∀ q, ¬ S q
  | some v => S v ∧ ∀ q, S q → q ≤ v
theorem best_one {S : Int → Prop} {o o' : Option Int} (h : IsBest S o) (h' : IsBest S o') : o = o' := by
  cases o with
  | none =>
    cases o' with
    | none => rfl
    | some v => exact absurd h'.1 (h v)
  | some u =>
    cases o' with
    | none => exact absurd h.1 (h' u)
    | some v => have := h.2 v h'.1; have := h'.2 u h.1; congr 1; omega
theorem best_congr {S S' : Int → Prop} (e : ∀ q, S q ↔ S' q) {o : Option Int} (h : IsBest S o) : IsBest S' o := by
  have : S = S' := funext fun q => propext (e q)
  rwa [← this]
theorem best_trans {o o1 o2 : Option Int} {S1 S2 : Int → Prop} (h1 : IsBest (fun q => o = some q ∨ S1 q) o1) (h2 : IsBest (fun q => o1 = some q ∨ S2 q) o2) : IsBest (fun q => o = some q ∨ (S1 q ∨ S2 q)) o2 := by
  cases o2 with
  | none =>
    intro q hq
    rcases hq with hq | hq | hq
    · cases o1 with
      | none => exact h1 q (.inl hq)
      | some v => exact h2 v (.inl rfl)
    · cases o1 with
      | none => exact h1 q (.inr hq)
      | some v => exact h2 v (.inl rfl)
    · exact h2 q (.inr hq)
  | some w =>
    obtain ⟨a, b⟩ := h2
    refine ⟨?_, fun q hq => ?_⟩
    · rcases a with rfl | a
      · rcases h1.1 with h | h
        · exact .inl h
        · exact .inr (.inl h)
      · exact .inr (.inr a)
    · rcases hq with hq | hq | hq
      · cases o1 with
        | none => exact absurd (.inl hq) (h1 q)
        | some v => have := h1.2 q (.inl hq); have := b v (.inl rfl); omega
      · cases o1 with
        | none => exact absurd (.inr hq) (h1 q)
        | some v => have := h1.2 q (.inr hq); have := b v (.inl rfl); omega
      · exact b q (.inr hq)
theorem bUp_best (o a : Option Int) (hnn : ∀ q, a = some q → 0 ≤ q) : IsBest (fun q => o = some q ∨ a = some q) (bUp o a) := by
  cases a with
  | none =>
    cases o with
    | none => intro q hq; rcases hq with h | h <;> cases h
    | some u => exact ⟨.inl rfl, fun q hq => by rcases hq with h | h <;> cases h; exact Int.le_refl _⟩
  | some q =>
    have := hnn q rfl
    cases o with
    | none =>
      refine ⟨.inr (by simp; omega), fun x hx => ?_⟩
      rcases hx with h | h
      · cases h
      · cases h; simp; omega
    | some u =>
      refine ⟨?_, fun x hx => ?_⟩
      · simp only [Option.getD_some]
        rcases Int.le_total q u with h | h
        · exact .inl (by rw [Int.max_eq_right h])
        · exact .inr (by rw [Int.max_eq_left h])
      · simp only [Option.getD_some]
        rcases hx with h | h <;> cases h <;> omega
theorem best_none {o : Option Int} : IsBest (fun q => o = some q ∨ False) o := by
  cases o with
  | none => intro q hq; rcases hq with h | h; cases h; exact h
  | some v => exact ⟨.inl rfl, fun q hq => by rcases hq with h | h; cases h; exact Int.le_refl _; exact h.elim⟩

/-- '#' stands last alone. -/
def okH (F : List ByteArray) : Prop := ∀ i, F[i]? = some hashB → i + 1 = F.length
theorem okH_tail {x : ByteArray} {F : List ByteArray} (h : okH (x :: F)) : okH F := fun i hi => by
  have := h (i + 1) (by simpa using hi)
  simp at this
  omega
theorem okH_hash {F : List ByteArray} (h : okH (hashB :: F)) : F = [] := by
  have h1 : 0 + 1 = F.length + 1 := h 0 rfl
  exact List.eq_nil_of_length_eq_zero (by omega)
/-- It wants it; wide: or not by a level that stands for others, at its first one. -/
def wantsW (wide : Bool) (F L : List ByteArray) : Prop := wants F L = true ∧ (wide = false → F.head? ≠ some hashB ∧ F.head? ≠ some plusB)
theorem wants_nil (L : List ByteArray) : wants [] L = L.isEmpty := by unfold wants; rfl
theorem wants_cons' (x : ByteArray) (r L : List ByteArray) : wants (x :: r) L = if x == hashB then true else match L with | [] => false | y :: m => (x == plusB || x == y) && wants r m := by first | rfl | rw [wants.eq_def]
theorem plus_hash : plusB ≠ hashB := by
  intro e
  have := congrArg ByteArray.toList e
  rw [plus_list, hash_list] at this
  simp at this

theorem walk_best (N : Nodes) (k : Int) : ∀ (L : List ByteArray) (oc : Option Nat) (wide : Bool) (o : Option Int), (∀ x ∈ L, x ≠ hashB ∧ x ≠ plusB) →
    (∀ c, oc = some c → ∀ F q, want N c F k = some q → 0 ≤ q ∧ okH F) →
    IsBest (fun q => o = some q ∨ ∃ c F, oc = some c ∧ wantsW wide F L ∧ want N c F k = some q) (walkU N L oc wide k o) := by
  intro L
  induction L with
  | nil =>
    intro oc wide o hL hv
    cases oc with
    | none =>
      refine best_congr (fun q => ?_) (best_none (o := o))
      simp
    | some c =>
      have hv' := hv c rfl
      have e1 : ∀ q, atN N (some c) k = some q ↔ want N c [] k = some q := fun q => by unfold atN want; rfl
      have e2 : ∀ q, atN N (nSub N c hashB) k = some q ↔ want N c [hashB] k = some q := fun q => by
        rw [want_cons]; unfold atN want; rfl
      have hw : walkU N [] (some c) wide k o = bUp (if wide then bUp o (atN N (nSub N c hashB) k) else o) (atN N (some c) k) := rfl
      rw [hw]
      cases wide with
      | false =>
        refine best_congr (fun q => ?_) (bUp_best o _ (fun q h => (hv' _ _ ((e1 q).1 h)).1))
        rw [e1]
        constructor
        · rintro (h | h)
          · exact .inl h
          · exact .inr ⟨c, [], rfl, ⟨by rw [wants_nil]; rfl, fun _ => by simp⟩, h⟩
        · rintro (h | ⟨c', F, hc, ⟨h1, h2⟩, h3⟩)
          · exact .inl h
          · cases hc
            cases F with
            | nil => exact .inr h3
            | cons y F =>
              rw [wants_cons'] at h1
              by_cases hy : y = hashB
              · exact absurd (by rw [hy]; rfl) (h2 rfl).1
              · rw [if_neg (by simpa using hy)] at h1; cases h1
      | true =>
        refine best_congr (fun q => ?_) (best_trans (bUp_best o _ (fun q h => (hv' _ _ ((e2 q).1 h)).1)) (bUp_best _ _ (fun q h => (hv' _ _ ((e1 q).1 h)).1)))
        rw [e1, e2]
        constructor
        · rintro (h | h | h)
          · exact .inl h
          · exact .inr ⟨c, [hashB], rfl, ⟨by rw [wants_cons']; simp, fun h => by cases h⟩, h⟩
          · exact .inr ⟨c, [], rfl, ⟨by rw [wants_nil]; rfl, fun h => by cases h⟩, h⟩
        · rintro (h | ⟨c', F, hc, ⟨h1, h2⟩, h3⟩)
          · exact .inl h
          · cases hc
            cases F with
            | nil => exact .inr (.inr h3)
            | cons y F =>
              rw [wants_cons'] at h1
              by_cases hy : y = hashB
              · subst hy
                rw [okH_hash (hv' _ _ h3).2] at h3
                exact .inr (.inl h3)
              · rw [if_neg (by simpa using hy)] at h1; cases h1
  | cons x r ih =>
    intro oc wide o hL hv
    have hx := hL x (List.mem_cons_self ..)
    have hr : ∀ y ∈ r, y ≠ hashB ∧ y ≠ plusB := fun y hy => hL y (List.mem_cons_of_mem _ hy)
    cases oc with
    | none =>
      refine best_congr (fun q => ?_) (best_none (o := o))
      simp
    | some c =>
      have hv' := hv c rfl
      have e2 : ∀ q, atN N (nSub N c hashB) k = some q ↔ want N c [hashB] k = some q := fun q => by
        rw [want_cons]; unfold atN want; rfl
      have hvs : ∀ y d, nSub N c y = some d → ∀ F q, want N d F k = some q → 0 ≤ q ∧ okH F := fun y d hd F q hq => by
        have := hv' (y :: F) q (by rw [want_cons, hd]; exact hq)
        exact ⟨this.1, okH_tail this.2⟩
      have ihX := ih (nSub N c x) true
      have ihP := ih (nSub N c plusB) true
      have eS : ∀ y q, (∃ d F, nSub N c y = some d ∧ wantsW true F r ∧ want N d F k = some q) ↔ ∃ F, wants F r = true ∧ want N c (y :: F) k = some q := fun y q => by
        constructor
        · rintro ⟨d, F, hd, ⟨h1, _⟩, h2⟩
          exact ⟨F, h1, by rw [want_cons, hd]; exact h2⟩
        · rintro ⟨F, h1, h2⟩
          rw [want_cons] at h2
          obtain ⟨d, hd, h3⟩ := Option.bind_eq_some_iff.1 h2
          exact ⟨d, F, hd, ⟨h1, fun h => by cases h⟩, h3⟩
      have hw : walkU N (x :: r) (some c) wide k o = if wide then walkU N r (nSub N c plusB) true k (walkU N r (nSub N c x) true k (bUp o (atN N (nSub N c hashB) k))) else walkU N r (nSub N c x) true k o := rfl
      rw [hw]
      cases wide with
      | false =>
        simp only [Bool.false_eq_true, if_false]
        refine best_congr (fun q => ?_) (ihX o hr (fun d hd => hvs x d hd))
        rw [eS]
        constructor
        · rintro (h | ⟨F, h1, h2⟩)
          · exact .inl h
          · refine .inr ⟨c, x :: F, rfl, ⟨?_, fun _ => ⟨?_, ?_⟩⟩, h2⟩
            · rw [wants_cons', if_neg (by simpa using hx.1)]
              simp [h1]
            · simpa using hx.1
            · simpa using hx.2
        · rintro (h | ⟨c', F, hc, ⟨h1, h2⟩, h3⟩)
          · exact .inl h
          · cases hc
            cases F with
            | nil => rw [wants_nil] at h1; cases h1
            | cons y F =>
              have h4 := h2 rfl
              simp only [List.head?_cons, ne_eq, Option.some.injEq] at h4
              rw [wants_cons', if_neg (by simpa using h4.1)] at h1
              simp only [Bool.and_eq_true, Bool.or_eq_true, beq_iff_eq] at h1
              rcases h1.1 with h5 | h5
              · exact absurd h5 h4.2
              · subst h5; exact .inr ⟨F, h1.2, h3⟩
      | true =>
        simp only [if_true]
        refine best_congr (fun q => ?_) (best_trans (best_trans (bUp_best o _ (fun q h => (hv' _ _ ((e2 q).1 h)).1)) (ihX _ hr (fun d hd => hvs x d hd))) (ihP _ hr (fun d hd => hvs plusB d hd)))
        rw [eS, eS, e2]
        constructor
        · rintro (h | (h | ⟨F, h1, h2⟩) | ⟨F, h1, h2⟩)
          · exact .inl h
          · exact .inr ⟨c, [hashB], rfl, ⟨by rw [wants_cons']; simp, fun h => by cases h⟩, h⟩
          · refine .inr ⟨c, x :: F, rfl, ⟨?_, fun h => by cases h⟩, h2⟩
            rw [wants_cons', if_neg (by simpa using hx.1)]
            simp [h1]
          · refine .inr ⟨c, plusB :: F, rfl, ⟨?_, fun h => by cases h⟩, h2⟩
            rw [wants_cons', if_neg (by simpa using plus_hash)]
            simp [h1]
        · rintro (h | ⟨c', F, hc, ⟨h1, _⟩, h3⟩)
          · exact .inl h
          · cases hc
            cases F with
            | nil => rw [wants_nil] at h1; cases h1
            | cons y F =>
              rw [wants_cons'] at h1
              by_cases hy : y = hashB
              · subst hy
                rw [okH_hash (hv' _ _ h3).2] at h3
                exact .inr (.inl (.inl h3))
              · rw [if_neg (by simpa using hy)] at h1
                simp only [Bool.and_eq_true, Bool.or_eq_true, beq_iff_eq] at h1
                rcases h1.1 with h5 | h5
                · subst h5; exact .inr (.inr ⟨F, h1.2, h3⟩)
                · subst h5; exact .inr (.inl (.inr ⟨F, h1.2, h3⟩))

/-- The greatest QoS of the filters that want a name. -/
def Wanted (A : Wishes) (n : Nat) (s : ByteArray) (q : Int) : Prop := ∃ p ∈ A n, mMatch p.1 s = true ∧ p.2 = q
theorem TrieA.best {w : World} {t root : Nat} {N : Nodes} {cnt : List Int} {A : Wishes} (h : TrieA w t root N cnt A) {s : ByteArray} (hs : lvName s = true) (k : Int) :
    IsBest (fun q => ∃ n : Nat, k = n ∧ Wanted A n s q) (walkU N (levels s) (some root) (!lvHidden s) k none) := by
  have hval : ∀ F q, Go.Proofs.YtldagaliddgdjaaGreatDoor.want N root F k = some q → ∃ n : Nat, k = n ∧ ∃ p ∈ A n, levels p.1 = F ∧ p.2 = q := fun F q hq => by
    obtain ⟨n, rfl, _, s2, rfl⟩ := h.only k F q hq
    rw [h.want] at hq
    exact ⟨n, rfl, (s2, q), aGet_mem hq, rfl, rfl⟩
  refine best_congr (fun q => ?_) (walk_best N k (levels s) (some root) (!lvHidden s) none (name_level hs) (fun c hc F q hq => ?_))
  · constructor
    · rintro (h1 | ⟨c, F, hc, ⟨h1, h2⟩, h3⟩)
      · cases h1
      · cases hc
        obtain ⟨n, rfl, p, hp, rfl, rfl⟩ := hval F q h3
        refine ⟨n, rfl, p, hp, ?_, rfl⟩
        have hf := (h.filt n p hp).1
        unfold mMatch
        rw [hf, hs, h1, Bool.and_true, Bool.true_and, Bool.true_and]
        cases hh : lvHidden s with
        | false => simp
        | true =>
          have h4 := h2 (by rw [hh]; rfl)
          cases hw : fWild p.1 with
          | false => rfl
          | true => rcases (wild_head hf).1 hw with h5 | h5; exact absurd h5 h4.1; exact absurd h5 h4.2
    · rintro ⟨n, rfl, p, hp, hm, rfl⟩
      unfold mMatch at hm
      simp only [Bool.and_eq_true] at hm
      obtain ⟨⟨⟨hf, _⟩, hsh⟩, hwt⟩ := hm
      refine .inr ⟨root, levels p.1, rfl, ⟨hwt, fun hh => ?_⟩, ?_⟩
      · have hh2 : lvHidden s = true := by simpa using hh
        rw [hh2, Bool.and_true] at hsh
        have hnw : ¬ fWild p.1 = true := by simpa using hsh
        exact ⟨fun e => hnw ((wild_head hf).2 (.inl e)), fun e => hnw ((wild_head hf).2 (.inr e))⟩
      · rw [h.want]
        exact aGet_of_mem (h.keys n) hp
  · cases hc
    obtain ⟨n, rfl, p, hp, rfl, rfl⟩ := hval F q hq
    have hf := h.filt n p hp
    exact ⟨hf.2.1, fun i hi => hash_last hf.1 hi⟩
/-- Those who want a name. -/
def tHits (A : Wishes) (s : ByteArray) (hs : List (Int × Int)) : Prop :=
  if lvName s = false then hs = [] else hs.Pairwise (fun a b => a.1 < b.1) ∧ ∀ k q, (k, q) ∈ hs ↔ ∃ n : Nat, k = n ∧ IsBest (Wanted A n s) (some q)
theorem thits_any (t : Nat) (F : List Nat) (A : Wishes) (s : ByteArray) (w : World) (h : TrieF w t F A) (hT : Tabs w) :
    Calls Tryz.prog 9 #[.pointer (some ⟨t, 0, none⟩), .string s] w fun e w' => ∃ v hs, e = .returned v ∧ tHits A s hs ∧ hs.length ≤ 8 ∧ Sl 57 hEnc 2 w.heap.size w' v hs ∧ Own [] w w' := by
  obtain ⟨root, N, cnt, rfl, h⟩ := h
  unfold tHits
  cases hs : lvName s with
  | false =>
    refine (hits_bad t root N cnt s w h.trie hT hs).mono ?_
    rintro e w' ⟨rfl, ho⟩
    exact ⟨_, [], rfl, by simp, by simp, Sl.nil _ _ _, ho⟩
  | true =>
    have hB := fun k => h.best hs k
    refine (hits_any t root N cnt s w h.trie hT hs (fun k hk => ?_)).mono ?_
    · have := hB k
      cases hw : walkU N (levels s) (some root) (!lvHidden s) k none with
      | none => exact absurd hw hk
      | some q =>
        rw [hw] at this
        obtain ⟨⟨n, rfl, p, hp, _⟩, _⟩ := this
        have : n < 8 := by
          rcases Nat.lt_or_ge n 8 with h1 | h1
          · exact h1
          · rw [h.out n h1] at hp; cases hp
        omega
    · rintro e w' ⟨v, hs', rfl, hS, hp, hm, hl, hO⟩
      refine ⟨v, hs', rfl, ?_, hl, hS, hO⟩
      rw [if_neg (by simp)]
      refine ⟨hp, fun k q => ?_⟩
      have hm' : ∀ k q, (k, q) ∈ hs' ↔ walkU N (levels s) (some root) (!lvHidden s) k none = some q := hm
      rw [hm']
      have hb := hB k
      constructor
      · intro hw
        rw [hw] at hb
        obtain ⟨⟨n, rfl, h1⟩, h2⟩ := hb
        exact ⟨n, rfl, h1, fun x hx => h2 x ⟨n, rfl, hx⟩⟩
      · rintro ⟨n, rfl, h1, h2⟩
        refine best_one hb ⟨⟨n, rfl, h1⟩, fun x hx => ?_⟩
        obtain ⟨n', he, hx⟩ := hx
        have : n' = n := by omega
        subst this
        exact h2 x hx
end Go.Proofs.YtldagaliddgdjaaGreatDoor
