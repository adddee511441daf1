/- Package trie: the greatest QoS that each one has. -/
import Derived.Test.YtldagaliddgdjaaGreatDoorTrieAdd
import Derived.Test.YtldagaliddgdjaaGreatDoorMrg3
import Derived.StillTailTactics
namespace Go.Proofs.YtldagaliddgdjaaGreatDoor
open Go.RowKit Go.Lib Go.Shelf

def bUp (o : Option Int) : Option Int → Option Int
  | none => o
  | some q => some (max q (o.getD 0))
theorem bestT : Tryz.prog.underlying 60 = some (.map 3 3) := Tryz.underlying60
theorem aGet_app {κ α : Type} [BEq κ] (l l' : List (κ × α)) (k : κ) : aGet (l ++ l') k = (aGet l k).or (aGet l' k) := by
  unfold aGet
  rw [List.find?_append]
  cases List.find? (fun p => p.1 == k) l <;> rfl
theorem aGet_putI (l : List (Int × Int)) (k j v : Int) : aGet (aPut l k v) j = if j = k then some v else aGet l j := by
  induction l with
  | nil => by_cases h : j = k
           · subst h; simp [aPut, aGet]
           · have : ¬ k = j := fun e => h e.symm
             simp [aPut, aGet, h, this]
  | cons p r ih =>
    unfold aPut
    by_cases hk : p.1 == k
    · have hp : p.1 = k := by simpa using hk
      by_cases h : j = k
      · subst h; simp [aGet, hp]
      · have h2 : ¬ k = j := fun e => h e.symm
        simp [aGet, hp, h, h2]
    · simp only [hk, Bool.false_eq_true, if_false]
      by_cases hj : p.1 == j
      · have hp : p.1 = j := by simpa using hj
        have : ¬ j = k := fun e => hk (by simp [hp, e])
        simp [aGet, hp, this]
      · simp only [aGet, List.find?_cons, hj] at ih ⊢
        exact ih
theorem MapP.lookI {w : World} {m : Nat} {l : List (Int × Int)} (h : MapP (Value.int .i64) (Value.int .i64) w m l) (k : Int) : (Instr.lookup 60 (.map (some m)) (.int .i64 k) false).run Tryz.prog w = .ok (.int .i64 ((aGet l k).getD 0)) w := by
  cases hg : aGet l k with
  | none => exact h.lookup_no whoK bestT k (whoZ _) hg false
  | some v => exact h.lookup_yes whoK bestT k hg false
theorem nodup_midI {r1 r2 : List (Int × Int)} {p : Int × Int} (h : ((r1 ++ p :: r2).map (·.1)).Nodup) : ∀ q ∈ r1 ++ r2, q.1 ≠ p.1 := by
  intro q hq e
  have h2 := (List.perm_middle (a := p) (l₁ := r1) (l₂ := r2)).map (·.1)
  have h3 := h2.nodup_iff.1 h
  rw [List.map_cons, List.nodup_cons] at h3
  exact h3.1 (by rw [← e]; exact List.mem_map_of_mem hq)
def BestPost (mb : Nat) (up : Int → Option Int) (w : World) (e : Ending) (w' : World) : Prop :=
  e = .returned (.tuple #[]) ∧ ∃ B', MapP (Value.int .i64) (Value.int .i64) w' mb B' ∧ (∀ k, aGet B' k = up k) ∧ Own [mb] w w'
set_option maxRecDepth 100000 in
set_option maxHeartbeats 4000000 in
theorem badd_any (mb : Nat) (B : List (Int × Int)) (n : Node) (w : World) (hN : NodeAt w n) (hB : MapP (Value.int .i64) (Value.int .i64) w mb B) (hne : mb ≠ n.who) :
    Calls Tryz.prog 44 #[.map (some mb), .pointer (some ⟨n.blk, 0, none⟩)] w (BestPost mb (fun k => bUp (aGet B k) (aGet n.ws k)) w) := by
  have hnd := hN.ws.nodup whoK
  have k1 := hN.cells.2
  obtain ⟨w1, rem0, hrng, hI, hp, hO1, hs1⟩ := hN.ws.range whoT
  have hB1 := hB.own hO1 (by simp)
  have hmr : mb < w.heap.size := hB.lt
  obtain ⟨r, hr⟩ : ∃ r, w.heap.size = r := ⟨_, rfl⟩
  rw [hr] at hI hrng hmr
  have hrr : w.heap.size ≤ r := by omega
  clear hr hN hB
  replace hnd := Lib.hid hnd
  replace hp := Lib.hid hp
  go_enter Tryz.func44, Tryz.ntmps44
  go_wp2_with fail
  go_loopg [] rem0.length (fun g wr => ∃ (cur dn rem : List (Int × Int)), g = rem.length ∧ IterP (Value.int .i64) (Value.int .i64) wr r n.who n.ws rem ∧ MapP (Value.int .i64) (Value.int .i64) wr mb cur ∧ Own [mb] w wr ∧ n.ws.Perm (dn ++ rem) ∧ Aside (∀ k, aGet cur k = bUp (aGet B k) (aGet dn k)))
  case atStart => exact ⟨B, [], rem0, rfl, hI, hB1, hO1.mono (by simp), hp.out.symm, (fun k => rfl : ∀ k, aGet B k = bUp (aGet B k) (aGet [] k))⟩
  case round =>
    obtain ⟨cur, dn, rem, rfl, hI, hM, hO, hp2, hA⟩ := hrel
    have hrl := hI.lt
    rcases hI.next Tryz.prog with ⟨hrem, hnx⟩ | ⟨r1, r2, k, v, w2, hrem, hnx, hI2, hO2, hs2, hen⟩
    · subst hrem
      rw [List.append_nil] at hp2
      have hfin : Aside (∀ k, aGet cur k = bUp (aGet B k) (aGet n.ws k)) := fun k => by rw [aGet_perm hp2 hnd.out]; exact hA k
      have hF : Aside (MapP (Value.int .i64) (Value.int .i64) wr mb cur ∧ (∀ k, aGet cur k = bUp (aGet B k) (aGet n.ws k)) ∧ Own [mb] w wr) := ⟨hM, hfin, hO⟩
      clear hI hM hp2 hA hfin hO
      go_wp2_with fail
      go_end0
      exact ⟨rfl, cur, hF⟩
    · subst hrem
      have hO3 := hO.trans' hO2 (by simp; omega)
      have hM2 := hM.own hO2 (by simp; omega)
      have lk := hM2.lookI k
      have hnk := nodup_midI (r1 := dn ++ r1) (r2 := r2) (p := (k, v)) (by
        have := (hp2.map (·.1)).nodup_iff.1 hnd.out
        simpa [List.append_assoc] using this)
      have hgd : aGet dn k = none := by
        rw [aGet_none_iff]
        intro p hp'
        exact hnk p (List.mem_append_left _ (List.mem_append_left _ hp'))
      have hgc : aGet cur k = aGet B k := by rw [hA k, hgd]; rfl
      rw [hgc] at lk
      obtain ⟨w3, hup, hM4, hO5, hs3⟩ := hM2.update whoK bestT k (max v ((aGet B k).getD 0))
      have hI4 := hI2.own hO5 (by simp; omega) (by simpa using hne.symm)
      have hF : Aside (IterP (Value.int .i64) (Value.int .i64) w3 r n.who n.ws (r1 ++ r2) ∧ MapP (Value.int .i64) (Value.int .i64) w3 mb (aPut cur k (max v ((aGet B k).getD 0))) ∧ Own [mb] w w3 ∧ n.ws.Perm ((dn ++ [(k, v)]) ++ (r1 ++ r2)) ∧ (∀ j, aGet (aPut cur k (max v ((aGet B k).getD 0))) j = bUp (aGet B j) (aGet (dn ++ [(k, v)]) j))) := by
        refine ⟨hI4, hM4, hO3.trans hO5, hp2.trans (by rw [List.append_assoc]; exact List.Perm.append_left dn List.perm_middle), fun j => ?_⟩
        rw [aGet_putI, aGet_app]
        by_cases hj : j = k
        · subst hj
          rw [if_pos rfl, hgd]
          simp [aGet, bUp]
        · have hj2 : ¬ k = j := fun e => hj e.symm
          rw [if_neg hj, hA j]
          simp [aGet, hj2]
      clear hI hI2 hI4 hM hM2 hM4 hO hO2 hO3 hO5 hp2 hA hnk hgd hgc
      generalize (aGet B k).getD 0 = z at *
      generalize aPut cur k (max v z) = cur2 at hF
      go_wp2_with fail
      go_roundg (r1 ++ r2).length
      case measure => simp
      case rel => exact ⟨_, _, r1 ++ r2, rfl, hF⟩
theorem badd_nil (mb : Nat) (w : World) : Calls Tryz.prog 44 #[.map (some mb), .pointer none] w fun e w' => e = .returned (.tuple #[]) ∧ w = w' := by
  go_enter Tryz.func44, Tryz.ntmps44
  go_wp2_with fail
  (try simp only [Exit.inBlock, Exit.then]); refine bodyPost_ret (results_none rfl _ _ _) rfl ?_
  exact ⟨rfl, rfl⟩
/-- Who wants what ends at a level, if there is one. -/
def atN (N : Nodes) (oc : Option Nat) (k : Int) : Option Int := oc.bind fun c => whoN N c k
theorem badd_opt (N : Nodes) (mb : Nat) (hmb : mb ∉ feet N) (oc : Option Nat) (B : List (Int × Int)) (w : World) (hF : Forest w N) (hh : ∀ c, oc = some c → Has N c) (hB : MapP (Value.int .i64) (Value.int .i64) w mb B) :
    Calls Tryz.prog 44 #[.map (some mb), optP oc] w (BestPost mb (fun k => bUp (aGet B k) (atN N oc k)) w) := by
  cases oc with
  | none =>
    refine (badd_nil mb w).mono ?_
    rintro e w' ⟨rfl, rfl⟩
    exact ⟨rfl, B, hB, fun k => rfl, Own.refl _ _⟩
  | some c =>
    obtain ⟨n, hf, hn, rfl⟩ := (hh c rfl).find hF.apart
    have := badd_any mb B n w (hF.at_ n hn) hB (fun e => hmb (foot_feet hn (by simp [Node.foot, e])))
    have e : ∀ k, atN N (some n.blk) k = aGet n.ws k := fun k => by simp [atN, whoN, hf]
    simp only [e]
    exact this
def walkU (N : Nodes) : List ByteArray → Option Nat → Bool → Int → Option Int → Option Int
  | [], none, _, _, o => o
  | _ :: _, none, _, _, o => o
  | [], some c, wide, k, o => bUp (if wide then bUp o (atN N (nSub N c hashB) k) else o) (atN N (some c) k)
  | x :: r, some c, wide, k, o =>
    if wide then walkU N r (nSub N c plusB) true k (walkU N r (nSub N c x) true k (bUp o (atN N (nSub N c hashB) k)))
    else walkU N r (nSub N c x) true k o
end Go.Proofs.YtldagaliddgdjaaGreatDoor
