/- TrieOrder's plain law: filters that have room, none of them twice, come to the same in any order. No program in sight, but where the tries lie. -/
import Derived.Test.YtamclcdcpaiojaaDoorTrieActs
namespace Go.Proofs.YtamclcdcpaiojaaDoor
open Go.RowKit Go.ChangeShapes Go.WideShapes Go.Lib Go.Shelf Go.Sort

def okp (x : ByteArray × Int) : Prop := lvFilter x.1 = true ∧ 0 ≤ x.2 ∧ x.2 ≤ 2
/-- What the filters of some places come to. -/
def Sp (T : List (ByteArray × Int)) (A : Wishes) (P : Nat → Prop) (c : Nat) : Prop :=
  (∀ (k : Nat) (s : ByteArray) (q : Int), aGet (A k) s = some q ↔ ∃ j, P j ∧ j % 3 = k ∧ T[j]? = some (s, q) ∧ okp (s, q)) ∧ ∀ k, (A k).length ≤ c
theorem Sp.nothing (T : List (ByteArray × Int)) (P : Nat → Prop) (h : ∀ j, ¬ P j) : Sp T (fun _ => []) P 0 :=
  ⟨fun k s q => ⟨fun h => by simp [aGet] at h, fun ⟨j, hj, _⟩ => absurd hj (h j)⟩, fun _ => Nat.le_refl _⟩
theorem uniq_at {T : List (ByteArray × Int)} (hn : (T.map (·.1)).Nodup) {i j : Nat} {s : ByteArray} {q r : Int} (hi : T[i]? = some (s, q)) (hj : T[j]? = some (s, r)) : i = j := by
  obtain ⟨hil, ei⟩ := List.getElem?_eq_some_iff.1 hi
  obtain ⟨hjl, ej⟩ := List.getElem?_eq_some_iff.1 hj
  have hp := List.pairwise_iff_getElem.1 hn
  rcases Nat.lt_trichotomy i j with h | h | h
  · have e : (T.map (·.1))[i]'(by simpa using hil) = (T.map (·.1))[j]'(by simpa using hjl) := by rw [List.getElem_map, List.getElem_map, ei, ej]
    exact absurd e (hp i j (by simpa using hil) (by simpa using hjl) h)
  · exact h
  · have e : (T.map (·.1))[j]'(by simpa using hjl) = (T.map (·.1))[i]'(by simpa using hil) := by rw [List.getElem_map, List.getElem_map, ei, ej]
    exact absurd e (hp j i (by simpa using hjl) (by simpa using hil) h)
theorem Sp.add {T : List (ByteArray × Int)} {A : Wishes} {P P' : Nat → Prop} {c j : Nat} {s : ByteArray} {q : Int} (h : Sp T A P c) (hn : (T.map (·.1)).Nodup) (hj : T[j]? = some (s, q)) (hP : ¬ P j) (hP' : ∀ i, P' i ↔ P i ∨ i = j) (hc : c < 16) :
    Sp T (tAdd A ((j % 3 : Nat) : Int) s q).2 P' (c + 1) := by
  have hno : okp (s, q) → aGet (A (j % 3)) s = none := fun _ => by
    cases hg : aGet (A (j % 3)) s with
    | none => rfl
    | some r =>
      obtain ⟨i, hPi, _, hi, _⟩ := (h.1 _ _ _).1 hg
      rw [uniq_at hn hi hj] at hPi
      exact absurd hPi hP
  have hskip : ¬ okp (s, q) → Sp T A P' (c + 1) := fun hb => ⟨fun k t r => by
    rw [h.1]
    constructor
    · rintro ⟨i, h1, h2⟩; exact ⟨i, (hP' i).2 (.inl h1), h2⟩
    · rintro ⟨i, h1, h2, h3, h4⟩
      rcases (hP' i).1 h1 with h5 | h5
      · exact ⟨i, h5, h2, h3, h4⟩
      · subst h5
        rw [hj] at h3
        obtain ⟨rfl, rfl⟩ := Prod.mk.inj (Option.some.inj h3)
        exact absurd h4 hb, fun k => by have := h.2 k; omega⟩
  have hmod : j % 3 < 3 := Nat.mod_lt _ (by omega)
  unfold tAdd
  rw [if_neg (by omega), Int.toNat_natCast]
  split
  · rename_i hf; exact hskip (fun hb => by rw [hb.1] at hf; cases hf)
  · rename_i hf
    split
    · rename_i hq; exact hskip (fun hb => by obtain ⟨_, h1, h2⟩ := hb; simp only at h1 h2; omega)
    · rename_i hq
      have hok : okp (s, q) := ⟨by simpa using hf, by simp only; omega, by simp only; omega⟩
      have hl := h.2 (j % 3)
      rw [if_neg (by omega)]
      simp only
      refine ⟨fun k t r => ?_, fun k => ?_⟩
      · unfold upd
        by_cases hk : k = j % 3
        · rw [if_pos hk, aGet_putG]
          by_cases ht : t = s
          · rw [if_pos ht]
            constructor
            · intro e
              cases e
              exact ⟨j, (hP' j).2 (.inr rfl), hk.symm, by rw [ht]; exact hj, by rw [ht]; exact hok⟩
            · rintro ⟨i, _, _, h3, _⟩
              rw [ht] at h3
              have := uniq_at hn h3 hj
              rw [this, hj] at h3
              exact congrArg some (Prod.mk.inj (Option.some.inj h3)).2
          · rw [if_neg ht, ← hk, h.1]
            constructor
            · rintro ⟨i, h1, h2⟩; exact ⟨i, (hP' i).2 (.inl h1), h2⟩
            · rintro ⟨i, h1, h2, h3, h4⟩
              rcases (hP' i).1 h1 with h5 | h5
              · exact ⟨i, h5, h2, h3, h4⟩
              · subst h5
                rw [hj] at h3
                exact absurd (Prod.mk.inj (Option.some.inj h3)).1.symm ht
        · rw [if_neg hk, h.1]
          constructor
          · rintro ⟨i, h1, h2⟩; exact ⟨i, (hP' i).2 (.inl h1), h2⟩
          · rintro ⟨i, h1, h2, h3, h4⟩
            rcases (hP' i).1 h1 with h5 | h5
            · exact ⟨i, h5, h2, h3, h4⟩
            · subst h5; exact absurd h2.symm hk
      · unfold upd
        split
        · rw [aPutG_len]; split <;> omega
        · have := h.2 k; omega
theorem Sp.same {T : List (ByteArray × Int)} {A B : Wishes} {P P' : Nat → Prop} {c d : Nat} (hA : Sp T A P c) (hB : Sp T B P' d) (hp : ∀ j, j < T.length → (P j ↔ P' j)) (kA : ∀ k, ((A k).map (·.1)).Nodup) (kB : ∀ k, ((B k).map (·.1)).Nodup) (k : Nat) : (A k).Perm (B k) := by
  refine get_perm (kA k) (kB k) (fun s => ?_)
  have : ∀ q, aGet (A k) s = some q ↔ aGet (B k) s = some q := fun q => by
    rw [hA.1, hB.1]
    constructor
    · rintro ⟨j, h1, h2, h3, h4⟩; exact ⟨j, (hp j (List.getElem?_eq_some_iff.1 h3).1).1 h1, h2, h3, h4⟩
    · rintro ⟨j, h1, h2, h3, h4⟩; exact ⟨j, (hp j (List.getElem?_eq_some_iff.1 h3).1).2 h1, h2, h3, h4⟩
  cases hb : aGet (B k) s with
  | some q => exact (this q).2 hb
  | none =>
    cases ha : aGet (A k) s with
    | none => rfl
    | some q => rw [(this q).1 ha] at hb; cases hb
theorem of_same {A B : Wishes} (h : ∀ k, (A k).Perm (B k)) {who : Int} {R R' : List (ByteArray × Int)} (hR : tOf A who R) (hR' : tOf B who R') : R = R' := by
  unfold tOf at hR hR'
  split at hR
  · rename_i hw; rw [if_pos hw] at hR'; rw [hR, hR']
  · rename_i hw
    rw [if_neg hw] at hR'
    exact rises_eq (hR.1.trans ((h _).trans hR'.1.symm)) hR.2 hR'.2
theorem hits_same {A B : Wishes} (h : ∀ k, (A k).Perm (B k)) {s : ByteArray} {R R' : List (Int × Int)} (hR : tHits A s R) (hR' : tHits B s R') : R = R' := by
  unfold tHits at hR hR'
  split at hR
  · rename_i hw; rw [if_pos hw] at hR'; rw [hR, hR']
  · rename_i hw
    rw [if_neg hw] at hR'
    refine hits_eq hR.1 hR'.1 (fun p => ?_)
    obtain ⟨k, q⟩ := p
    rw [hR.2, hR'.2]
    have hW : ∀ n : Nat, IsBest (Wanted A n s) (some q) ↔ IsBest (Wanted B n s) (some q) := fun n => by
      have he : ∀ v, Wanted A n s v ↔ Wanted B n s v := fun v =>
        ⟨fun ⟨p, hp, h2⟩ => ⟨p, (h n).subset hp, h2⟩, fun ⟨p, hp, h2⟩ => ⟨p, (h n).symm.subset hp, h2⟩⟩
      exact ⟨best_congr he, best_congr fun v => (he v).symm⟩
    exact ⟨fun ⟨n, h1, h2⟩ => ⟨n, h1, (hW n).1 h2⟩, fun ⟨n, h1, h2⟩ => ⟨n, h1, (hW n).2 h2⟩⟩
theorem len_same {A B : Wishes} (h : ∀ k, (A k).Perm (B k)) : tLen A = tLen B := by
  unfold tLen
  rw [(h 0).length_eq, (h 1).length_eq, (h 2).length_eq, (h 3).length_eq, (h 4).length_eq, (h 5).length_eq, (h 6).length_eq, (h 7).length_eq]

/-- Two tries, and a list of filters, none of which lies where another does. -/
structure Two (B0 : Nat) (w : World) (ta tb : Nat) (Fa Fb : List Nat) (A B : Wishes) (v : Value) (T : List (ByteArray × Int)) : Prop where
  a : TrieF w ta Fa A
  b : TrieF w tb Fb B
  ap : ∀ x ∈ Fa, x ∉ Fb
  la : ∀ x ∈ Fa, B0 ≤ x
  lb : ∀ x ∈ Fb, B0 ≤ x
  rd : Reads fEnc w v T
  bl : ∀ g, v.ownBlock = some g → g ∉ Fa ∧ g ∉ Fb ∧ g < w.heap.size
  base : B0 ≤ w.heap.size
theorem Two.nil' {B0 : Nat} {w w' : World} {ta tb : Nat} {Fa Fb : List Nat} {A B : Wishes} {v : Value} {T : List (ByteArray × Int)} (h : Two B0 w ta tb Fa Fb A B v T) (ho : Own [] w w') : Two B0 w' ta tb Fa Fb A B v T :=
  ⟨h.a.nil' ho, h.b.nil' ho, h.ap, h.la, h.lb, h.rd.nil' ho, fun g hg => ⟨(h.bl g hg).1, (h.bl g hg).2.1, Nat.lt_of_lt_of_le (h.bl g hg).2.2 ho.size⟩, Nat.le_trans h.base ho.size⟩
theorem Two.addA {B0 : Nat} {w w' : World} {ta tb : Nat} {Fa Fb : List Nat} {A A' B : Wishes} {v : Value} {T : List (ByteArray × Int)} (h : Two B0 w ta tb Fa Fb A B v T) (hL : Left w ta Fa A' w') : (∃ F, Two B0 w' ta tb F Fb A' B v T) ∧ Below B0 w w' := by
  obtain ⟨F', h1, h2, h3⟩ := hL
  have hs := h3.size
  have hlt := h.b.lt
  refine ⟨⟨F', h1, h.b.own h3 (fun x hx hy => h.ap x hy hx), fun x hx hy => ?_, fun x hx => ?_, h.lb, h.rd.own h3 (fun g hg => (h.bl g hg).1), fun g hg => ⟨fun hx => ?_, (h.bl g hg).2.1, Nat.lt_of_lt_of_le (h.bl g hg).2.2 hs⟩, Nat.le_trans h.base hs⟩, h3.below h.base h.la⟩
  · rcases h2 x hx with h4 | h4
    · exact h.ap x h4 hy
    · have := hlt x hy; omega
  · rcases h2 x hx with h4 | h4
    · exact h.la x h4
    · exact Nat.le_trans h.base h4
  · rcases h2 g hx with h4 | h4
    · exact (h.bl g hg).1 h4
    · have := (h.bl g hg).2.2; omega
theorem Two.addB {B0 : Nat} {w w' : World} {ta tb : Nat} {Fa Fb : List Nat} {A B B' : Wishes} {v : Value} {T : List (ByteArray × Int)} (h : Two B0 w ta tb Fa Fb A B v T) (hL : Left w tb Fb B' w') : (∃ F, Two B0 w' ta tb Fa F A B' v T) ∧ Below B0 w w' := by
  obtain ⟨F', h1, h2, h3⟩ := hL
  have hs := h3.size
  have hlt := h.a.lt
  refine ⟨⟨F', h.a.own h3 (fun x hx hy => h.ap x hx hy), h1, fun x hx hy => ?_, h.la, fun x hx => ?_, h.rd.own h3 (fun g hg => (h.bl g hg).2.1), fun g hg => ⟨(h.bl g hg).1, fun hx => ?_, Nat.lt_of_lt_of_le (h.bl g hg).2.2 hs⟩, Nat.le_trans h.base hs⟩, h3.below h.base h.lb⟩
  · rcases h2 x hy with h4 | h4
    · exact h.ap x hx h4
    · have := hlt x hx; omega
  · rcases h2 x hx with h4 | h4
    · exact h.lb x h4
    · exact Nat.le_trans h.base h4
  · rcases h2 g hx with h4 | h4
    · exact (h.bl g hg).2.1 h4
    · have := (h.bl g hg).2.2; omega

/-! ### filters that came in -/
def filtKinds : List CK := [.str, .int .i64]
theorem filt_flat : flat Tryd.prog 4 26 = some filtKinds := by kernel_rfl
theorem filt_cells : Tryd.prog.cellsOf 26 = 2 := by kernel_rfl
instance : Inhabited (ByteArray × Int) := ⟨(ByteArray.empty, 0)⟩
theorem fits_filt {cs : List Value} (h : Fits filtKinds cs) : ∃ x : ByteArray × Int, cs = fEnc x := by
  obtain ⟨hl, hf⟩ := h
  match cs, hl with
  | [v0, v1], _ =>
    obtain ⟨s0, rfl, _⟩ := hf 0 _ _ rfl rfl
    obtain ⟨n1, rfl, _⟩ := hf 1 _ _ rfl rfl
    exact ⟨(s0, n1), rfl⟩
theorem open_filts {H : Type} {enc : TypeId × Value → H} {w : World} {fuel : Nat} {a0 : Option Addr} {len0 cap0 : Nat} {x : DataW H × List MemPlace} (h : DataW.trod enc Tryd.prog w 0 (fun _ => true) true fuel 22 (Value.cells (.slice a0 len0 cap0)).toList = some x)
    {ts : List TypeId} {ds : List (DataW H)} (_hsz : (DataW.weightsEach Tryd.prog ts ds).all (· ≤ reachBytes) = true) {j : Nat} (_ht : ts[j]? = some 22) (_hd : ds[j]? = some x.1) : ∃ ms, RowOf fEnc 2 w a0 len0 ms :=
  open_row Tryd.underlying22 filt_flat filt_cells (by omega) fits_filt h
end Go.Proofs.YtamclcdcpaiojaaDoor
