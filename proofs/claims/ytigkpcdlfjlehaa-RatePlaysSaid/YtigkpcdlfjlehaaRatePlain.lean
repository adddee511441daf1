/- The plain law of RatePlays: what the marks and the document's list answer is one. No program in sight. -/
import Derived.Test.YtigkpcdlfjlehaaRateRef
namespace Go.Proofs.Ytigkpcdlfjlehaa
open Go.RowKit

structure RAlike (l r : RTab) : Prop where
  perm : r.Perm l
  rises : Rises mKey r
  bd : ∀ p ∈ r, 0 ≤ p.2 ∧ p.2 ≤ 1073741824
  len : l.length ≤ 8

theorem RAlike.nd {l r : RTab} (h : RAlike l r) : (r.map (·.1)).Nodup := rises_nodup h.rises
theorem RAlike.get {l r : RTab} (h : RAlike l r) (n : ByteArray) : aGet l n = if rHas mKey r n then some (r.getD (rPos mKey r n) (n, 0)).2 else none := by
  rw [← aGet_perm h.perm h.nd]
  by_cases hb : rHas mKey r n = true
  · rw [if_pos hb]
    obtain ⟨p, hp, hk⟩ := rHas_some hb
    have hgd : r.getD (rPos mKey r n) (n, 0) = p := by simp [List.getD, hp]
    rw [hgd]
    have hm := List.mem_of_getElem? hp
    have := rises_nodup h.rises
    clear hp hgd hb
    unfold aGet
    cases hf : r.find? (fun q => q.1 == n) with
    | none =>
      have := List.find?_eq_none.1 hf p hm
      simp [hk] at this
    | some q =>
      have hq := List.find?_some hf
      have hqm := List.mem_of_find?_eq_some hf
      have e : q = p := by
        have hkq : q.1 = n := by simpa using hq
        have h1 := rPos_known h.rises hm hk
        have h2 := rPos_known h.rises hqm (n := n) hkq
        rw [h1] at h2
        exact (Option.some.inj h2).symm
      rw [e]; rfl
  · have hb' : rHas mKey r n = false := by simpa using hb
    rw [if_neg hb]
    have := rHas_none h.rises hb'
    unfold aGet
    rw [List.find?_eq_none.2 (fun p hp => by simpa using this p hp)]
    rfl
theorem RAlike.may {l r : RTab} (h : RAlike l r) (gap : Int) (n : ByteArray) (now : Int) : rMay l gap n now = dMay r gap n now := by
  unfold rMay dMay
  rw [h.get n, h.perm.length_eq]
  cases rHas mKey r n <;> rfl
theorem aDel_perm {l r : RTab} (h : r.Perm l) (n : ByteArray) : (aDel r n).Perm (aDel l n) := h.filter _
theorem RAlike.ask {l r : RTab} (h : RAlike l r) (gap : Int) (n : ByteArray) (now : Int) : RAlike (rAsk l gap n now) (dAsk r gap n now) := by
  unfold rAsk dAsk
  rw [← h.may gap n now]
  cases hm : rMay l gap n now with
  | false => simpa using h
  | true =>
    have ht : timedB now = true := by
      unfold rMay at hm
      exact (Bool.and_eq_true_iff.1 hm).1
    have hnow : 0 ≤ now ∧ now ≤ 1073741824 := by simpa [timedB] using ht
    simp only [if_true]
    cases hb : rHas mKey r n with
    | true =>
      simp only [if_true]
      obtain ⟨p, hp, hk⟩ := rHas_some hb
      have hl := (List.getElem?_eq_some_iff.1 hp).1
      have hpe := (List.getElem?_eq_some_iff.1 hp).2
      generalize rPos mKey r n = K at *
      have e1 : (p :: r.eraseIdx K).Perm r := by have := cons_erase r K hl; rwa [hpe] at this
      have hno : ∀ q ∈ r.eraseIdx K, q.1 ≠ n := by
        have := (e1.map (·.1)).nodup_iff.2 h.nd
        rw [List.map_cons, List.nodup_cons] at this
        intro q hq e
        exact this.1 (by rw [show p.1 = n from hk, ← e]; exact List.mem_map_of_mem hq)
      have e2 : aDel (p :: r.eraseIdx K) n = r.eraseIdx K := by
        unfold aDel
        rw [List.filter_cons, if_neg (by simpa using hk)]
        exact List.filter_eq_self.2 (fun q hq => by simpa using hno q hq)
      have e3 : (r.eraseIdx K).Perm (aDel l n) := by
        have := aDel_perm (e1.trans h.perm) n
        rwa [e2] at this
      have hpm : (r.set K (n, now)).Perm ((n, now) :: aDel l n) := (set_perm hl (n, now)).trans (List.Perm.cons _ e3)
      refine ⟨hpm, set_rises h.rises hp hk.symm, ?_, ?_⟩
      · intro q hq
        rcases List.mem_cons.1 ((set_perm hl (n, now)).subset hq) with rfl | h1
        · exact hnow
        · exact h.bd q ((List.eraseIdx_sublist ..).subset h1)
      · rw [← hpm.length_eq, List.length_set, h.perm.length_eq]; exact h.len
    | false =>
      simp only [Bool.false_eq_true, if_false]
      have hno := rHas_none h.rises hb
      have hg := h.get n
      rw [hb] at hg
      simp only [Bool.false_eq_true, if_false] at hg
      rw [aDel_none hg]
      have hl8 : l.length < 8 := by
        unfold rMay at hm
        rw [hg] at hm
        simpa using (Bool.and_eq_true_iff.1 hm).2
      refine ⟨(rIns_perm r (n, now)).trans (List.Perm.cons _ h.perm), rIns_rises h.rises hno, ?_, by simp; omega⟩
      intro q hq
      rcases List.mem_cons.1 ((rIns_perm (key := mKey) r (n, now)).subset hq) with rfl | h1
      · exact hnow
      · exact h.bd q h1
/-- The keys, sorted, are the document's. -/
theorem RAlike.keys {l r : RTab} (h : RAlike l r) {ks : List ByteArray} (hp : ks.Perm (l.map (·.1))) (hs : ks.Pairwise (fun x y => sless y x = false)) : ks = r.map (·.1) := by
  have hp2 : ks.Perm (r.map (·.1)) := hp.trans (h.perm.map _).symm
  refine rises_eq (key := id) hp2 (rises_of hs ?_) ?_
  · rw [List.map_id]; exact hp2.nodup_iff.2 h.nd
  · unfold Rises
    rw [List.pairwise_map]
    exact h.rises
theorem RAlike.at_ {l r : RTab} (h : RAlike l r) {k : Nat} {p : ByteArray × Int} (hk : r[k]? = some p) : aGet l p.1 = some p.2 := by
  rw [h.get]
  have hm := List.mem_of_getElem? hk
  rw [if_pos (rHas_of h.rises hm rfl)]
  have h1 := rPos_known h.rises hm (n := p.1) rfl
  simp [List.getD, h1]
theorem RAlike.in_ {l r : RTab} (h : RAlike l r) (n : ByteArray) : (aGet l n).isSome = (r.map (·.1)).any (fun x => x == n) := by
  rw [← aGet_perm h.perm h.nd]
  unfold aGet
  rw [Option.isSome_map, List.any_map, Bool.eq_iff_iff, List.find?_isSome, List.any_eq_true]
  rfl
end Go.Proofs.Ytigkpcdlfjlehaa
