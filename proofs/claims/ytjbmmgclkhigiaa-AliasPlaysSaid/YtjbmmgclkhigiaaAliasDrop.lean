/- alias: Drop, maps.Copy, may, Set, Try. -/
import Derived.Test.YtjbmmgclkhigiaaAliasFresh
namespace Go.Proofs.Ytjbmmgclkhigiaa
open Go.RowKit

theorem nodup_mid {r1 r2 : ATab} {p : Int × Stands} (h : ((r1 ++ p :: r2).map (·.1)).Nodup) : ∀ q ∈ r1 ++ r2, q.1 ≠ p.1 := by
  have h2 := ((List.perm_middle (a := p) (l₁ := r1) (l₂ := r2)).map (·.1)).nodup_iff.1 h
  simp only [List.map_cons, List.nodup_cons] at h2
  exact fun q hq e => h2.1 (by rw [← e]; exact List.mem_map_of_mem hq)
theorem aDel_mid {l dn r1 r2 : ATab} {p : Int × Stands} (hp : l.Perm (dn ++ (r1 ++ p :: r2))) (hn : (l.map (·.1)).Nodup) : (aDel l p.1).Perm (dn ++ (r1 ++ r2)) := by
  have h1 : (aDel l p.1).Perm (aDel (dn ++ (r1 ++ p :: r2)) p.1) := hp.filter _
  have hn2 : (((dn ++ r1) ++ p :: r2).map (·.1)).Nodup := by
    have := (hp.map (·.1)).nodup_iff.1 hn
    simpa [List.append_assoc] using this
  have h2 := nodup_mid hn2
  have e : aDel (dn ++ (r1 ++ p :: r2)) p.1 = dn ++ (r1 ++ r2) := by
    unfold aDel
    rw [← List.append_assoc, List.filter_append, List.filter_cons]
    have q1 : (dn ++ r1).filter (fun q => !(q.1 == p.1)) = dn ++ r1 := List.filter_eq_self.2 fun q hq => by simpa using h2 q (List.mem_append_left _ hq)
    have q2 : r2.filter (fun q => !(q.1 == p.1)) = r2 := List.filter_eq_self.2 fun q hq => by simpa using h2 q (List.mem_append_right _ hq)
    rw [q1, q2]
    simp
  rw [e] at h1
  exact h1

set_option maxHeartbeats 1000000 in
theorem drop_any (b m : Nat) (l : ATab) (ow : ByteArray) (w : World) (h : Tab w b m l) (hcap : l.length ≤ 1000000) :
    Calls Try.prog 12 #[.pointer (some ⟨b, 0, none⟩), .string ow] w fun e w' =>
      e = .returned (.int .i64 ((l.length - (aOthers l ow).length : Nat) : Int)) ∧ Tab w' b m (aOthers l ow) ∧ Own [m] w w' := by
  have hnd := h.nodup
  have hm : w.cell? ⟨b, 0, none⟩ = some (.map (some m)) := cell_of_row w b 0 _ _ _ h.row
  obtain ⟨w1, rem0, hrng, hI, hp, hO1, hs1⟩ := h.map.range aMapT
  have hle : (aOthers l ow).length ≤ l.length := List.length_filter_le _ _
  have hmr : m < w.heap.size := h.map.lt
  have hbr : b < w.heap.size := lt_of_heap h.row
  obtain ⟨r, hr⟩ : ∃ r, w.heap.size = r := ⟨_, rfl⟩
  rw [hr] at hI hrng hmr hbr
  have hrr : w.heap.size ≤ r := by omega
  have hbm := h.ne
  have hrow0 := h.row
  clear hr h
  replace hnd := Lib.hid hnd
  obtain ⟨D, hD⟩ : ∃ D, l.length - (aOthers l ow).length = D := ⟨_, rfl⟩
  rw [hD]
  replace hD := Lib.hid hD
  have hDb : D ≤ 1000000 := by have := hD.out; omega
  go_enter Try.func12, Try.ntmps12
  go_wp2_with (go_at_call 23; refine (none_no _ _ _ hm).mono ?_; rintro e w' ⟨rfl, rfl⟩)
  go_loopg [5] rem0.length (fun g n wr => ∃ (lc dn rem : ATab) (c : Nat), g = rem.length ∧ n = .int .i64 c ∧ IterP aKey sVal wr r m lc rem ∧ Own [m] w wr ∧ lc.Perm (dn ++ rem) ∧ (dn ++ aOthers rem ow).Perm (aOthers l ow) ∧ (lc.map (·.1)).Nodup ∧
      c + rem.length + (aOthers l ow).length = l.length + (aOthers rem ow).length)
  case atStart => exact ⟨l, [], rem0, 0, rfl, rfl, hI, hO1.mono (by simp), by simpa using hp.symm, by simpa using aOthers_perm hp ow, hnd.out, by rw [hp.length_eq, (aOthers_perm hp ow).length_eq]; omega⟩
  case round =>
    obtain ⟨lc, dn, rem, c, rfl, rfl, hI, hO, hp1, hp2, hn1, hcnt⟩ := hrel
    have hrl := hI.lt
    have hrow := hO.heap hrow0 (by simpa using hbm)
    rcases hI.next Try.prog with ⟨hrem, hnx⟩ | ⟨r1, r2, k, v, w2, hrem, hnx, hI2, hO2, hs2, hen⟩
    · subst hrem
      have hcD : c = D := by have := hD.out; simp [aOthers] at hcnt; simp only [aOthers] at this hle; omega
      subst hcD
      have hfin : Tab wr b m (aOthers l ow) := ⟨hbm, hrow, hI.map.perm (hp1.trans (by simpa [aOthers] using hp2))⟩
      replace hfin := Lib.hid hfin
      clear hI hp1 hp2 hn1 hcnt hrow hrow0
      go_wp2_with fail
      go_ret
      exact ⟨rfl, hfin.out, hO⟩
    · subst hrem
      obtain ⟨ow2, nm⟩ := v
      simp only [aKey, sVal] at hnx hen
      have hO3 := hO.trans' hO2 (by simp; omega)
      have hI3 := hI2.own ((Own.refl [] _).alloc (.cells #[.string ow2, .string nm] 62)) (by simp) (by simp)
      have hO4 := hO3.alloc (.cells #[.string ow2, .string nm] 62)
      by_cases ho : ow2 = ow
      · subst ho
        have hnk : ∀ p ∈ r1 ++ r2, p.1 ≠ k := by
          have hn2 : ((r1 ++ (k, (ow2, nm)) :: r2).map (·.1)).Nodup := by
            have := (hp1.map (·.1)).nodup_iff.1 hn1
            rw [List.map_append] at this
            exact (List.nodup_append.1 this).2.1
          exact nodup_mid hn2
        obtain ⟨w3, hdel, hI4, hO5, hs3⟩ := hI3.delete aKind aMapT k 23 hnk
        have hp3 : (aDel lc k).Perm (dn ++ (r1 ++ r2)) := aDel_mid (p := (k, (ow2, nm))) hp1 hn1
        have hn3 : ((aDel lc k).map (·.1)).Nodup := ((List.filter_sublist (l := lc)).map _).nodup hn1
        rw [aOthers_mid_same] at hp2 hcnt
        have hcnt2 : (c + 1) + (r1 ++ r2).length + (aOthers l ow2).length = l.length + (aOthers (r1 ++ r2) ow2).length := by simp at hcnt ⊢; omega
        have hcb : c + 1 ≤ 1000001 := by
          have := hD.out
          have h1 : (aOthers (r1 ++ r2) ow2).length ≤ (r1 ++ r2).length := List.length_filter_le _ _
          omega
        have hO6 := hO4.trans hO5
        have hmc : (w2.alloc (.cells #[.string ow2, .string nm] 62)).cell? ⟨b, 0, none⟩ = some (.map (some m)) :=
          cell_of_row _ b 0 _ _ _ (hO4.heap hrow0 (by simpa using hbm))
        simp only [aKey] at hdel
        have A : Aside (IterP aKey sVal w3 r m (aDel lc k) (r1 ++ r2) ∧ Own [m] w w3 ∧ (aDel lc k).Perm (dn ++ (r1 ++ r2)) ∧ (dn ++ aOthers (r1 ++ r2) ow2).Perm (aOthers l ow2) ∧ ((aDel lc k).map (·.1)).Nodup ∧ (c + 1) + (r1 ++ r2).length + (aOthers l ow2).length = l.length + (aOthers (r1 ++ r2) ow2).length) :=
          ⟨hI4, hO6, hp3, hp2, hn3, hcnt2⟩
        clear hI hI2 hI3 hI4 hO hO2 hO3 hO4 hO5 hO6 hp1 hp2 hp3 hn1 hn3 hcnt hcnt2 hnk hrow hrow0
        go_wp2_with fail
        go_roundg (r1 ++ r2).length
        case measure => simp
        case rel => exact ⟨_, dn, r1 ++ r2, c + 1, rfl, by go_num, A.out⟩
      · have hob : (ow2.toList == ow.toList) = false := by rw [← beq_toListBytes]; simpa using ho
        have hp4 : lc.Perm (((k, (ow2, nm)) :: dn) ++ (r1 ++ r2)) := hp1.trans (by
          refine (List.Perm.append_left dn List.perm_middle).trans ?_
          exact List.perm_middle)
        have hp5 : (((k, (ow2, nm)) :: dn) ++ aOthers (r1 ++ r2) ow).Perm (aOthers l ow) :=
          (List.perm_middle.symm.trans (List.Perm.append_left dn (aOthers_mid_other ho).symm)).trans hp2
        have hcnt2 : c + (r1 ++ r2).length + (aOthers l ow).length = l.length + (aOthers (r1 ++ r2) ow).length := by
          have := (aOthers_mid_other (r1 := r1) (r2 := r2) (k := k) (n := nm) ho).length_eq
          simp at this hcnt ⊢
          omega
        have A : Aside (IterP aKey sVal _ r m lc (r1 ++ r2) ∧ Own [m] w _ ∧ lc.Perm (((k, (ow2, nm)) :: dn) ++ (r1 ++ r2)) ∧ (((k, (ow2, nm)) :: dn) ++ aOthers (r1 ++ r2) ow).Perm (aOthers l ow) ∧ (lc.map (·.1)).Nodup ∧ c + (r1 ++ r2).length + (aOthers l ow).length = l.length + (aOthers (r1 ++ r2) ow).length) :=
          ⟨hI3, hO4, hp4, hp5, hn1, hcnt2⟩
        clear hI hI2 hI3 hO hO2 hO3 hO4 hp1 hp2 hp4 hp5 hn1 hcnt hcnt2 hrow hrow0 ho
        go_wp2_with fail
        go_roundg (r1 ++ r2).length
        case measure => simp
        case rel => exact ⟨_, _, r1 ++ r2, c, rfl, rfl, A.out⟩

set_option maxHeartbeats 1000000 in
/-- 'maps.Copy' of what is not there yet. -/
theorem copy_any (m mw : Nat) (base want : ATab) (w : World) (hm : MapP aKey sVal w m base) (hw : MapP aKey sVal w mw want) (hne : m ≠ mw) (hdis : ∀ p ∈ want, aGet base p.1 = none) :
    Calls Try.prog 22 #[.map (some m), .map (some mw)] w fun e w' =>
      e = .returned (.tuple #[]) ∧ MapP aKey sVal w' m (base ++ want) ∧ Own [m] w w' := by
  have hnd := hw.nodup aKind
  obtain ⟨w1, rem0, hrng, hI, hp, hO1, hs1⟩ := hw.range aMapT
  have hm1 := hm.own hO1 (by simp)
  have hmr : m < w.heap.size := hm.lt
  obtain ⟨r, hr⟩ : ∃ r, w.heap.size = r := ⟨_, rfl⟩
  rw [hr] at hI hrng hmr
  have hrr : w.heap.size ≤ r := by omega
  clear hr hm hw
  replace hnd := Lib.hid hnd
  replace hdis := Lib.hid hdis
  replace hp := Lib.hid hp
  go_enter Try.func22, Try.ntmps22
  go_wp2_with fail
  go_loopg [4] rem0.length (fun g _k wr => ∃ (cur dn rem : ATab), g = rem.length ∧ IterP aKey sVal wr r mw want rem ∧ MapP aKey sVal wr m cur ∧ Own [m] w wr ∧ cur.Perm (base ++ dn) ∧ want.Perm (dn ++ rem))
  case atStart => exact ⟨base, [], rem0, rfl, hI, hm1, hO1.mono (by simp), by simp, hp.out.symm⟩
  case round =>
    obtain ⟨cur, dn, rem, rfl, hI, hM, hO, hp1, hp2⟩ := hrel
    have hrl := hI.lt
    rcases hI.next Try.prog with ⟨hrem, hnx⟩ | ⟨r1, r2, k, v, w2, hrem, hnx, hI2, hO2, hs2, hen⟩
    · subst hrem
      have hfin : MapP aKey sVal wr m (base ++ want) := hM.perm (hp1.trans (List.Perm.append_left base (by simpa using hp2.symm)))
      replace hfin := Lib.hid hfin
      clear hI hM hp1 hp2
      go_wp2_with fail
      go_end0
      exact ⟨rfl, hfin.out, hO⟩
    · subst hrem
      obtain ⟨ow2, nm⟩ := v
      simp only [aKey, sVal] at hnx hen
      have hO3 := hO.trans' hO2 (by simp; omega)
      have hM2 := hM.own hO2 (by simp; omega)
      have hI3 := hI2.own ((Own.refl [] _).alloc (.cells #[.string ow2, .string nm] 62)) (by simp) (by simp)
      have hM3 := hM2.own ((Own.refl [] _).alloc (.cells #[.string ow2, .string nm] 62)) (by simp)
      have hO4 := hO3.alloc (.cells #[.string ow2, .string nm] 62)
      have hkw : (k, ((ow2, nm) : Stands)) ∈ want := hp2.mem_iff.2 (by simp)
      have hnk := nodup_mid (r1 := dn ++ r1) (r2 := r2) (p := (k, ((ow2, nm) : Stands))) (by
        have := (hp2.map (·.1)).nodup_iff.1 hnd.out
        simpa [List.append_assoc] using this)
      have hgn : aGet cur k = none := by
        rw [aGet_none_iff]
        intro p hp' 
        rcases List.mem_append.1 (hp1.mem_iff.1 hp') with h1 | h1
        · exact (aGet_none_iff _ _).1 (hdis.out _ hkw) p h1
        · exact hnk p (List.mem_append_left _ (List.mem_append_left _ h1))
      obtain ⟨w3, hup, hM4, hO5, hs3⟩ := hM3.update aKind aMapT k ((ow2, nm) : Stands)
      rw [aPut_new hgn] at hM4
      have hI4 := hI3.own hO5 (by simp; omega) (by simpa using hne.symm)
      simp only [aKey, sVal] at hup
      have A : Aside (IterP aKey sVal w3 r mw want (r1 ++ r2) ∧ MapP aKey sVal w3 m (cur ++ [(k, (ow2, nm))]) ∧ Own [m] w w3 ∧ (cur ++ [(k, (ow2, nm))]).Perm (base ++ (dn ++ [(k, (ow2, nm))])) ∧ want.Perm ((dn ++ [(k, (ow2, nm))]) ++ (r1 ++ r2))) :=
        ⟨hI4, hM4, hO4.trans hO5, by rw [← List.append_assoc]; exact hp1.append_right _, hp2.trans (by rw [List.append_assoc]; exact List.Perm.append_left dn List.perm_middle)⟩
      clear hI hI2 hI3 hI4 hM hM2 hM3 hM4 hO hO2 hO3 hO4 hO5 hp1 hp2 hnk hgn hkw
      go_wp2_with fail
      go_roundg (r1 ++ r2).length
      case measure => simp
      case rel => exact ⟨_, _, r1 ++ r2, rfl, A.out⟩
end Go.Proofs.Ytjbmmgclkhigiaa
