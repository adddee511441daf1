/- Package trie: the law's awake. -/
import Derived.Test.YtldagaliddgdjaaGreatDoorTrieClear
namespace Go.Proofs.YtldagaliddgdjaaGreatDoor
open Go.RowKit Go.Lib Go.Shelf Go.Sort

theorem hits_eq : ∀ {l l' : List (Int × Int)}, l.Pairwise (fun a b => a.1 < b.1) → l'.Pairwise (fun a b => a.1 < b.1) → (∀ p, p ∈ l ↔ p ∈ l') → l = l'
  | [], [], _, _, _ => rfl
  | [], y :: r, _, _, h => absurd ((h y).2 (List.mem_cons_self ..)) (by simp)
  | x :: r, [], _, _, h => absurd ((h x).1 (List.mem_cons_self ..)) (by simp)
  | x :: r, y :: r', h1, h2, h => by
    rw [List.pairwise_cons] at h1 h2
    have hxy : x = y := by
      rcases List.mem_cons.1 ((h x).1 (List.mem_cons_self ..)) with e | hx
      · exact e
      · rcases List.mem_cons.1 ((h y).2 (List.mem_cons_self ..)) with e | hy
        · exact e.symm
        · have := h2.1 x hx
          have := h1.1 y hy
          omega
    subst hxy
    rw [hits_eq h1.2 h2.2 (fun p => ?_)]
    constructor
    · intro hp
      rcases List.mem_cons.1 ((h p).1 (List.mem_cons_of_mem _ hp)) with rfl | h3
      · have := h1.1 p hp; omega
      · exact h3
    · intro hp
      rcases List.mem_cons.1 ((h p).2 (List.mem_cons_of_mem _ hp)) with rfl | h3
      · have := h2.1 p hp; omega
      · exact h3
def fAny : ByteArray := ⟨#[97, 47, 35]⟩
def fAB : ByteArray := ⟨#[97, 47, 98]⟩
def aw0 : Wishes := fun _ => []
def aw1 : Wishes := upd aw0 0 [(fAny, 1)]
def aw2 : Wishes := upd aw1 0 [(fAny, 1), (fAB, 2)]
theorem okAny : lvFilter fAny = true := by kernel_rfl
theorem okAB : lvFilter fAB = true := by kernel_rfl
theorem nmAB : lvName fAB = true := by kernel_rfl
theorem mtAny : mMatch fAny fAB = true := by kernel_rfl
theorem mtAB : mMatch fAB fAB = true := by kernel_rfl
theorem neAB : (fAny == fAB) = false := by rw [eq_toList]; kernel_rfl
theorem awAdd1 : tAdd aw0 0 fAny 1 = ((false, 0), aw1) := by
  unfold tAdd
  rw [if_neg (by omega), okAny, if_neg (by simp), if_neg (by omega), if_neg (by simp [aw0])]
  rfl
theorem awAdd2 : tAdd aw1 0 fAB 2 = ((false, 0), aw2) := by
  have h0 : aw1 (0 : Int).toNat = [(fAny, 1)] := rfl
  unfold tAdd
  rw [if_neg (by omega), okAB, if_neg (by simp), if_neg (by omega), h0]
  have hg : aGet [(fAny, (1 : Int))] fAB = none := by unfold aGet; rw [List.find?_cons, neAB]; rfl
  have hp : aPut [(fAny, (1 : Int))] fAB 2 = [(fAny, 1), (fAB, 2)] := by unfold aPut; rw [if_neg (by simpa using neAB)]; rfl
  rw [hg, hp, if_neg (by simp)]
  rfl
theorem awHits {hs : List (Int × Int)} (h : tHits aw2 fAB hs) : hs = [(0, 2)] := by
  unfold tHits at h
  rw [nmAB, if_neg (by simp)] at h
  refine hits_eq h.1 (List.pairwise_singleton _ _) (fun p => ?_)
  obtain ⟨k, q⟩ := p
  rw [h.2]
  have h0 : ∀ q, Wanted aw2 0 fAB q ↔ q = 1 ∨ q = 2 := fun q => by
    unfold Wanted
    have e : aw2 0 = [(fAny, 1), (fAB, 2)] := rfl
    rw [e]
    constructor
    · rintro ⟨p, hp, _, rfl⟩
      simp at hp
      rcases hp with rfl | rfl
      · exact .inl rfl
      · exact .inr rfl
    · rintro (rfl | rfl)
      · exact ⟨(fAny, 1), by simp, mtAny, rfl⟩
      · exact ⟨(fAB, 2), by simp, mtAB, rfl⟩
  constructor
  · rintro ⟨n, rfl, h1, h2⟩
    by_cases hn : n = 0
    · subst hn
      have a := (h0 q).1 h1
      have b := h2 2 ((h0 2).2 (.inr rfl))
      have : q = 2 := by omega
      subst this
      simp
    · exfalso
      obtain ⟨p, hp, _⟩ := h1
      have e : aw2 n = [] := by unfold aw2 aw1 aw0 upd; rw [if_neg hn, if_neg hn]
      rw [e] at hp
      cases hp
  · intro hp
    simp at hp
    obtain ⟨rfl, rfl⟩ := hp
    exact ⟨0, rfl, (h0 2).2 (.inr rfl), fun x hx => by have := (h0 x).1 hx; omega⟩
theorem awLen : tLen aw2 = 2 := rfl

set_option maxRecDepth 100000 in
set_option maxHeartbeats 4000000 in
theorem tawake_any (w : World) (hT : Tabs w) : Calls Tryz.prog 14 #[] w fun e w' => e = .returned (.bool true) ∧ Own [] w w' := by
  have A1 := fun t F W (h : TrieF W t F aw0) (hT : Tabs W) => tadd_any t F aw0 0 fAny 1 W h hT
  have A2 := fun t F W (h : TrieF W t F aw1) (hT : Tabs W) => tadd_any t F aw1 0 fAB 2 W h hT
  have H := fun t F W (h : TrieF W t F aw2) (hT : Tabs W) => thits_any t F aw2 fAB W h hT
  have L := fun t F W (h : TrieF W t F aw2) => tlen2_any t F aw2 W h
  rw [awAdd1] at A1
  rw [awAdd2] at A2
  rw [awLen] at L
  unfold fAny at A1
  unfold fAB at A2 H
  have hN := tnew_any w
  replace A1 := Lib.hid A1
  replace A2 := Lib.hid A2
  replace H := Lib.hid H
  replace L := Lib.hid L
  replace hN := Lib.hid hN
  replace hT := Lib.hid hT
  go_enter Tryz.func14, Tryz.ntmps14
  go_wp2_with fail
  refine hN.out.mono ?_
  rintro e w1 ⟨t, F, rfl, hF1, hn1, hO1⟩
  have hT1 := hT.out.own hO1 (by simp)
  replace hF1 := Lib.hid hF1
  replace hT1 := Lib.hid hT1
  replace hO1 := Lib.hid hO1
  go_wp2_with fail
  refine (A1.out t F _ hF1.out hT1.out).mono ?_
  rintro e w2 ⟨rfl, F2, hF2, hs2, hO2⟩
  have hO2w : Own [] w w2 := (hO1.out.nil.trans hO2).weaken (fun x hx => .inr (hn1 x hx))
  have hn2 : ∀ x ∈ F2, w.heap.size ≤ x := fun x hx => by
    rcases hs2 x hx with h | h
    · exact hn1 x h
    · exact Nat.le_trans hO1.out.size h
  have hT2 := hT.out.own hO2w (by simp)
  replace hF2 := Lib.hid hF2
  replace hT2 := Lib.hid hT2
  replace hO2w := Lib.hid hO2w
  clear hO2 hs2
  go_wp2_with fail
  refine (A2.out t F2 _ hF2.out hT2.out).mono ?_
  rintro e w3 ⟨rfl, F3, hF3, hs3, hO3⟩
  have hO3w : Own [] w w3 := (hO2w.out.nil.trans hO3).weaken (fun x hx => .inr (hn2 x hx))
  have hT3 := hT.out.own hO3w (by simp)
  replace hF3 := Lib.hid hF3
  replace hT3 := Lib.hid hT3
  replace hO3w := Lib.hid hO3w
  clear hO3 hs3
  go_wp2_with fail
  refine (H.out t F3 _ hF3.out hT3.out).mono ?_
  rintro e w4 ⟨v, hs, rfl, hh, _, hS, hO4⟩
  have hh2 := awHits hh
  subst hh2
  have hL := L.out t F3 _ (hF3.out.nil' hO4)
  have hRd := hS.reads hEnc_len
  obtain ⟨a, c, rfl⟩ := hS.sl
  obtain ⟨b0, o0, rfl, hca⟩ := hRd.at_ hEnc_len (by simp)
  have d0 : w4.cell? ⟨b0, o0, none⟩ = some (.int .i64 0) := by simpa using hca 0 (0, 2) 0 _ rfl rfl
  have d1 : w4.cell? ⟨b0, o0 + 1, none⟩ = some (.int .i64 2) := by simpa using hca 0 (0, 2) 1 _ rfl rfl
  have hOw := Lib.hid (hO3w.out.trans hO4)
  simp only [List.length_singleton]
  replace hL := Lib.hid hL
  clear hca hRd hS hO4 hh
  go_wp2_with (go_at_call 6; refine hL.out.mono ?_; rintro e w5 ⟨rfl, rfl⟩)
  go_ret
  exact ⟨rfl, hOw.out⟩
end Go.Proofs.YtldagaliddgdjaaGreatDoor
