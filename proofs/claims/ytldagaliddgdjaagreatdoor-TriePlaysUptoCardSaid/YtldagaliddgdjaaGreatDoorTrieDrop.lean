/- Package trie: empty, prune, Drop. -/
import Derived.Test.YtldagaliddgdjaaGreatDoorTriePrune
import Derived.Test.YtldagaliddgdjaaGreatDoorMrg3
import Derived.Test.YtldagaliddgdjaaGreatDoorTrieAddOk
import Derived.Deep.QuietTactic
import Derived.BigQuiet
namespace Go.Proofs.YtldagaliddgdjaaGreatDoor
open Go.RowKit Go.Lib Go.Shelf

theorem Forest.del {w : World} {N : Nodes} (h : Forest w N) {n : Node} (hn : n ∈ N) (k : Int) (ty : TypeId) :
    ∃ w', (Builtin.delete_ #[59, 3] ty #[.map (some n.who), .int .i64 k]).run Tryz.prog w = .ok (.tuple #[]) w' ∧ Forest w' (nDel N n.blk k) ∧ Own [n.who] w w' := by
  obtain ⟨w', hr, hM, hO, _⟩ := (h.at_ n hn).ws.delete whoK whoT k 3 ty
  refine ⟨w', hr, ⟨?_, by rw [feet_del]; exact h.apart⟩, hO⟩
  intro m hm
  obtain ⟨a, ha, rfl⟩ := List.mem_map.1 hm
  by_cases hab : a.blk = n.blk
  · have := feet_apart h.apart ha hn (x := a.blk) (by simp [Node.foot]) (by simp [Node.foot, hab])
    subst this
    rw [if_pos rfl]
    have hd := h.at_ a ha
    have nd := foot_nodup h.apart ha
    simp [Node.foot] at nd
    exact ⟨hO.heap hd.row (by simp; exact nd.1.2), hd.sub.own hO (by simp; exact nd.2), hM⟩
  · rw [if_neg hab]
    refine (h.at_ a ha).own hO fun y hy hy2 => ?_
    simp at hy2
    subst hy2
    have := feet_apart h.apart ha hn hy (by simp [Node.foot])
    subst this
    exact hab rfl
theorem Forest.cut {w : World} {N : Nodes} (h : Forest w N) {n : Node} (hn : n ∈ N) (x : ByteArray) (ty : TypeId) :
    ∃ w', (Builtin.delete_ #[77, 9] ty #[.map (some n.bel), .string x]).run Tryz.prog w = .ok (.tuple #[]) w' ∧ Forest w' (nCut N n.blk x) ∧ Own [n.bel] w w' := by
  obtain ⟨w', hr, hM, hO, _⟩ := (h.at_ n hn).sub.delete subK subT x 9 ty
  refine ⟨w', hr, ⟨?_, by rw [feet_cut]; exact h.apart⟩, hO⟩
  intro m hm
  obtain ⟨a, ha, rfl⟩ := List.mem_map.1 hm
  by_cases hab : a.blk = n.blk
  · have := feet_apart h.apart ha hn (x := a.blk) (by simp [Node.foot]) (by simp [Node.foot, hab])
    subst this
    rw [if_pos rfl]
    have hd := h.at_ a ha
    have nd := foot_nodup h.apart ha
    simp [Node.foot] at nd
    exact ⟨hO.heap hd.row (by simp; exact nd.1.1), hM, hd.ws.own hO (by simp; exact fun e => nd.2 e.symm)⟩
  · rw [if_neg hab]
    refine (h.at_ a ha).own hO fun y hy hy2 => ?_
    simp at hy2
    subst hy2
    have := feet_apart h.apart ha hn hy (by simp [Node.foot])
    subst this
    exact hab rfl
theorem pruned_feet {k : Int} {N N' : Nodes} {c : Nat} {L : List ByteArray} {b : Bool} (h : Pruned k N c L N' b) : feet N' = feet N ∧ (Closed' N → Closed' N') ∧ (∀ e, Has N e → Has N' e) := by
  induction h with
  | here c => exact ⟨feet_del _ _ _, fun h => closed_del h, fun e he => has_del he⟩
  | keep h q ih => exact ih
  | cut h q ih => exact ⟨(feet_cut _ _ _).trans ih.1, fun hC => closed_cut (ih.2.1 hC), fun e he => has_cut (ih.2.2 e he)⟩

set_option maxHeartbeats 1000000 in
theorem empty_any (N : Nodes) (c : Nat) (w : World) (h : Forest w N) (hc : Has N c) :
    Calls Tryz.prog 61 #[.pointer (some ⟨c, 0, none⟩)] w fun e w' => e = .returned (.bool (emptyN N c)) ∧ w = w' := by
  obtain ⟨n, hf, hn, rfl⟩ := hc.find h.apart
  obtain ⟨k0, k1⟩ := (h.at_ n hn).cells
  have l0 := (h.at_ n hn).sub.len_run subT
  have l1 := (h.at_ n hn).ws.len_run whoT
  have he : emptyN N n.blk = (n.sub.isEmpty && n.ws.isEmpty) := by unfold emptyN; rw [hf]
  rw [he]
  cases hs : n.sub with
  | nil =>
    rw [hs] at l0
    have hw : n.ws.isEmpty = ((n.ws.length : Int) == 0) := by cases n.ws <;> simp; omega
    rw [List.isEmpty_nil, Bool.true_and, hw]
    simp only [List.length_nil] at l0
    clear hs hf h he
    go_enter Tryz.func61, Tryz.ntmps61
    go_wp2_with fail
    go_ret
    exact ⟨rfl, rfl⟩
  | cons p r =>
    rw [hs] at l0
    have hz : (((p :: r).length : Int) == 0) = false := by simp; omega
    rw [List.isEmpty_cons, Bool.false_and]
    generalize (p :: r).length = len at l0 hz
    clear hs hf h he
    go_enter Tryz.func61, Tryz.ntmps61
    go_wp2_with fail
    go_ret
    exact ⟨rfl, rfl⟩

def PrunePost (k : Int) (N : Nodes) (c : Nat) (L : List ByteArray) (w : World) (e : Ending) (w' : World) : Prop :=
  ∃ N' b, e = .returned (.bool b) ∧ Pruned k N c L N' b ∧ Forest w' N' ∧ Own (feet N) w w'
set_option maxRecDepth 100000 in
set_option maxHeartbeats 4000000 in
theorem prune_any (k : Int) (N : Nodes) (hC : Closed' N) : ∀ (L : List ByteArray) (c : Nat) (v : Value) (w : World), L.length ≤ 3000000 → Reads lEnc w v L → CapOk v → (∀ b, v.ownBlock = some b → b ∉ feet N) → Forest w N → Has N c → (reachN N c L).isSome = true →
    Calls Tryz.prog 41 #[.pointer (some ⟨c, 0, none⟩), v, .int .i64 k] w (PrunePost k N c L w) := by
  intro L
  induction L with
  | nil =>
    intro c v w hL hR hcap hvb hF hc hs
    obtain ⟨a, cp, rfl⟩ := hR.form
    obtain ⟨n, hf, hn, rfl⟩ := hc.find hF.apart
    obtain ⟨k0, k1⟩ := (hF.at_ n hn).cells
    obtain ⟨w', hdel, hF', hO'⟩ := hF.del hn k 0
    have hE := empty_any (nDel N n.blk k) n.blk w' hF' (has_del hc)
    have hOf : Own (feet N) w w' := hO'.mono (fun x hx => by simp at hx; subst hx; exact foot_feet hn (by simp [Node.foot]))
    have hP := Pruned.here (k := k) N n.blk
    replace hE := Lib.hid hE
    replace hF' := Lib.hid hF'
    replace hOf := Lib.hid hOf
    replace hP := Lib.hid hP
    clear hR hcap hvb hF hf hs hO' hc
    simp only [List.length_nil]
    go_enter Tryz.func41, Tryz.ntmps41
    go_wp2_with (go_at_call 61; refine hE.out.mono ?_; rintro e w2 ⟨rfl, rfl⟩)
    go_ret
    exact ⟨_, _, rfl, hP.out, hF'.out, hOf.out⟩
  | cons x r ih =>
    intro c v w hL hR hcap hvb hF hc hs
    obtain ⟨v1, hsl, hR1, hob, hcap1⟩ := hR.drop lElem hcap (i := 1) (by simp)
    replace hsl : ∀ W, (Instr.sliceAt 23 v (some (.int .i64 1)) none none).run Tryz.prog W = .ok v1 W := hsl
    have hvb1 : ∀ b, v1.ownBlock = some b → b ∉ feet N := fun b hb => hvb b (hob b hb)
    rw [List.drop_succ_cons, List.drop_zero] at hR1
    obtain ⟨a, cp, rfl⟩ := hR.form
    obtain ⟨b0, o0, rfl, hca⟩ := hR.at_ lEnc_len (by simp)
    have hxc : w.cell? ⟨b0, o0, none⟩ = some (.string x) := by simpa using hca 0 x 0 _ rfl rfl
    have hb0 : b0 ∉ feet N := hvb b0 rfl
    have hxl := block_lt_of_cell hxc
    obtain ⟨len, hlen⟩ : ∃ len, (x :: r).length = len := ⟨_, rfl⟩
    rw [hlen] at hsl ⊢
    have hl1 : 1 ≤ len := by rw [← hlen]; simp
    have hl0 : (0 : Int) < len := by omega
    have hl00 : 0 < len := by omega
    have hlne : ((len : Int) == 0) = false := by simp; omega
    have hL1 : r.length ≤ 3000000 := by simp at hL; omega
    rw [reachN_cons] at hs
    obtain ⟨d, hd⟩ : ∃ d, nSub N c x = some d := by
      cases hx : nSub N c x with
      | none => rw [hx] at hs; cases hs
      | some d => exact ⟨d, rfl⟩
    rw [hd, Option.bind_some] at hs
    obtain ⟨n, hf, hn, rfl⟩ := hc.find hF.apart
    have k0 := (hF.at_ n hn).cells.1
    have hsub : nSub N n.blk x = aGet n.sub x := by unfold nSub; rw [hf]; rfl
    have lk : ∀ q, (Instr.lookup 77 (.map (some n.bel)) (.string x) false).run Tryz.prog (w.drewN q) = .ok (.pointer (some ⟨d, 0, none⟩)) (w.drewN q) := fun q => by
      have h1 := ((hF.nil' ((Own.refl [] w).drewN q)).at_ n hn).look x
      rw [← hsub, hd] at h1
      exact h1
    have IH := fun q => ih d v1 (w.drewN q) hL1 (hR1.nil' ((Own.refl [] w).drewN q)) hcap1 hvb1 (hF.nil' ((Own.refl [] w).drewN q)) (nSub_has hC hd) hs
    unfold PrunePost at IH
    have hpf := fun N' b (h : Pruned k N d r N' b) => pruned_feet h
    replace IH := Lib.hid IH
    replace hpf := Lib.hid hpf
    replace hd := Lib.hid hd
    replace hb0 := Lib.hid hb0
    replace hc := Lib.hid hc
    have hCc := Lib.hid hC
    clear hR hR1 hcap hcap1 hvb hvb1 hob hca hlen hL hL1 hf hsub hs ih
    go_enter Tryz.func41, Tryz.ntmps41
    go_wp2_with fail
    go_quiet (fail)
    go_wp2_with fail
    refine (IH.out nq).mono ?_
    rintro e w2 ⟨N', b, rfl, hP, hF2, hO2⟩
    have hO3 := ((Own.refl [] w).drewN nq).nil.trans hO2
    have x2 := (hO3.cell (p := ⟨b0, o0, none⟩) hxl hb0.out).trans hxc
    obtain ⟨hft, hC2, hH2⟩ := hpf.out N' b hP
    have hc2 := hH2 _ hc.out
    obtain ⟨n2, hf2, hn2, hnb⟩ := hc2.find hF2.apart
    have k2 := (hF2.at_ n2 hn2).cells.1
    rw [hnb] at k2
    replace hO3 := Lib.hid hO3
    cases b with
    | false =>
      have hE := empty_any N' n.blk w2 hF2 hc2
      have hPP := Pruned.keep hd.out hP
      replace hE := Lib.hid hE
      replace hPP := Lib.hid hPP
      replace hF2 := Lib.hid hF2
      clear hO2 hP hft hC2 hH2 hc2 hf2
      go_wp2_with (go_at_call 61; refine hE.out.mono ?_; rintro e w3 ⟨rfl, rfl⟩)
      go_ret
      exact ⟨_, _, rfl, hPP.out, hF2.out, hO3.out⟩
    | true =>
      obtain ⟨w3, hdel, hF3, hO4⟩ := (hF2.nil' ((Own.refl [] w2).drew)).cut hn2 x 0
      rw [hnb] at hF3
      have hE := empty_any (nCut N' n.blk x) n.blk w3 hF3 (has_cut hc2)
      have hPP := Pruned.cut hd.out hP
      have hO5 : Own (feet N) w w3 := (hO3.out.drew).trans (hO4.mono (fun y hy => by simp at hy; subst hy; rw [← hft]; exact foot_feet hn2 (by simp [Node.foot])))
      replace hE := Lib.hid hE
      replace hPP := Lib.hid hPP
      replace hF3 := Lib.hid hF3
      replace hO5 := Lib.hid hO5
      clear hO2 hP hft hC2 hH2 hc2 hf2 hO4 hF2
      go_wp2_with fail
      go_region
      all_goals
        go_wp2_with (go_at_call 61; refine hE.out.mono ?_; rintro e w4 ⟨rfl, rfl⟩)
        go_ret
        exact ⟨_, _, rfl, hPP.out, hF3.out, hO5.out⟩

/-! ### Drop -/
theorem known_bad (k : Int) (w : World) (hk : k < 0 ∨ 8 ≤ k) : Calls Tryz.prog 30 #[.int .i64 k] w fun e w' => e = .returned (.bool false) ∧ w = w' := by
  rcases hk with hk | hk
  · have h0 : ¬ (0 : Int) ≤ k := by omega
    go_enter Tryz.func30, Tryz.ntmps30
    go_wp2_with fail
    go_ret
    exact ⟨rfl, rfl⟩
  · have h0 : (0 : Int) ≤ k := by omega
    have h1 : ¬ k < 8 := by omega
    go_enter Tryz.func30, Tryz.ntmps30
    go_wp2_with fail
    go_ret
    exact ⟨rfl, rfl⟩

theorem drop_unknown (t root : Nat) (N : Nodes) (cnt : List Int) (k : Int) (s : ByteArray) (w : World) (h : Trie w t root N cnt) (hk : k < 0 ∨ 8 ≤ k) :
    Calls Tryz.prog 18 #[.pointer (some ⟨t, 0, none⟩), .int .i64 k, .string s] w fun e w' => e = .returned (.bool false) ∧ w = w' := by
  have c0 := h.cell0
  have hkn := Lib.hid (fun W => known_bad k W hk)
  clear h hk
  go_enter Tryz.func18, Tryz.ntmps18
  go_wp2_with (first
    | (go_at_call 22; refine (tnone_no t root _ c0).mono ?_; rintro e w' ⟨rfl, rfl⟩)
    | (go_at_call 30; refine (hkn.out _).mono ?_; rintro e w' ⟨rfl, rfl⟩))
  go_ret
  exact ⟨rfl, rfl⟩
set_option maxRecDepth 100000 in
theorem drop_not (t root : Nat) (N : Nodes) (cnt : List Int) (k : Nat) (s : ByteArray) (w : World) (h : Trie w t root N cnt) (hk : k < 8) (hs : s.size ≤ 1048576) (hh : hasN N root (levels s) k = false) :
    Calls Tryz.prog 18 #[.pointer (some ⟨t, 0, none⟩), .int .i64 k, .string s] w fun e w' => e = .returned (.bool false) ∧ Own [] w w' := by
  have c0 := h.cell0
  have hkn := Lib.hid (fun W => known_any k W hk)
  have cH := has_any t root N cnt k s w h hs
  rw [hh] at cH
  replace cH := Lib.hid cH
  clear h hk hh
  go_enter Tryz.func18, Tryz.ntmps18
  go_wp2_with (first
    | (go_at_call 22; refine (tnone_no t root _ c0).mono ?_; rintro e w' ⟨rfl, rfl⟩)
    | (go_at_call 30; refine (hkn.out _).mono ?_; rintro e w' ⟨rfl, rfl⟩)
    | (go_at_call 36; refine cH.out.mono ?_; rintro e w2 ⟨rfl, hO2⟩; replace hO2 := Lib.hid hO2))
  go_ret
  exact ⟨rfl, hO2.out⟩
def DropPost (t root : Nat) (N : Nodes) (cnt : List Int) (k : Nat) (s : ByteArray) (w : World) (e : Ending) (w' : World) : Prop :=
  ∃ N' b, e = .returned (.bool true) ∧ Pruned k N root (levels s) N' b ∧ Trie w' t root N' (cnt.set k (cnt.getD k 0 - 1)) ∧ feet N' = feet N ∧ Own (t :: feet N) w w'
set_option maxRecDepth 100000 in
set_option maxHeartbeats 4000000 in
theorem drop_yes (t root : Nat) (N : Nodes) (cnt : List Int) (k : Nat) (s : ByteArray) (w : World) (h : Trie w t root N cnt) (hk : k < 8) (hs : s.size ≤ 1048576) (hh : hasN N root (levels s) k = true) (hc2 : ∀ v ∈ cnt, 0 ≤ v ∧ v ≤ 1000) :
    Calls Tryz.prog 18 #[.pointer (some ⟨t, 0, none⟩), .int .i64 k, .string s] w (DropPost t root N cnt k s w) := by
  have c0 := h.cell0
  have hkn := Lib.hid (fun W => known_any k W hk)
  have cH := has_any t root N cnt k s w h hs
  rw [hh] at cH
  obtain ⟨v, hv⟩ : ∃ v, cnt[k]? = some v := ⟨_, List.getElem?_eq_getElem (by rw [h.len]; exact hk)⟩
  have hvd : cnt.getD k 0 = v := by rw [List.getD_eq_getElem?_getD, hv]; rfl
  have hv2 := hc2 v (List.mem_of_getElem? hv)
  unfold DropPost
  rw [hvd]
  have hr : (reachN N root (levels s)).isSome = true := by
    unfold hasN at hh
    cases hx : reachN N root (levels s) with
    | none => rw [hx] at hh; cases hh
    | some c => rfl
  have hL : (levels s).length ≤ 1048577 := by have := levels_len s; omega
  have cS := fun W => split_any s W hs
  have cP := fun v W (ho : Own [] w W) (hR : Sl 9 lEnc 1 w.heap.size W v (levels s)) => prune_any k N h.closed (levels s) root v W (by omega) (hR.reads lEnc_len) hR.capOk (fun b hb hx => by have := (hR.block hb).1; have := h.forest.lt b hx; omega) (h.forest.nil' ho) h.has hr
  have cT := fun W (ho : Own [] w W) => (h.nil' ho).cell0
  have cE : ∀ N' b w5 W (_ : Own [] w W) (_ : Own (feet N) W w5) (_ : Pruned k N root (levels s) N' b) (_ : Forest w5 N'), Trie w5 t root N' cnt ∧ Own (t :: feet N) w w5 ∧ feet N' = feet N := fun N' b w5 W ho hO hP hF => by
    obtain ⟨h1, h2, h3⟩ := pruned_feet hP
    have hO2 : Own (feet N) w w5 := ho.nil.trans hO
    exact ⟨⟨hO2.heap h.row h.out, h.len, hF, h3 _ h.has, h2 h.closed, by rw [h1]; exact h.out⟩, hO2.mono (fun x hx => List.mem_cons_of_mem _ hx), h1⟩
  have hw1 : IntKind.i64.wrap (v - 1) = v - 1 := IntWalk.i64_in _ (by omega)
  have hk8 : (k : Int) < 8 := by omega
  have hk0 : (0 : Int) ≤ k := by omega
  replace cH := Lib.hid cH
  replace cS := Lib.hid cS
  replace cP := Lib.hid cP
  replace cE := Lib.hid cE
  replace cT := Lib.hid cT
  replace hv := Lib.hid hv
  clear h hh hc2 hr hL hvd
  go_enter Tryz.func18, Tryz.ntmps18
  go_wp2_with (first
    | (go_at_call 22; refine (tnone_no t root _ c0).mono ?_; rintro e w' ⟨rfl, rfl⟩)
    | (go_at_call 30; refine (hkn.out _).mono ?_; rintro e w' ⟨rfl, rfl⟩)
    | (go_at_call 36; refine cH.out.mono ?_; rintro e w2 ⟨rfl, hO2⟩; have c2 := cT.out w2.drew hO2.drew; have hO2d := Lib.hid hO2.drew; replace hO2 := Lib.hid hO2))
  go_region_held3 (fun W => W.cell? ⟨t, 0, none⟩ = some (.pointer (some ⟨root, 0, none⟩)))
    (first | exact c2 | exact kA | exact kB | go_keep)
    ((first
      | (go_at_call 25; refine (cS.out _).mono ?_; rintro e wa ⟨va, rfl, hSa, hOa⟩; replace hOa := hO2d.out.trans hOa; have kA := cT.out wa hOa; have hPr := cP.out va wa hOa (hSa.mono hO2d.out.size); replace hPr := Lib.hid hPr; replace hOa := Lib.hid hOa; clear hSa)
      | (go_at_call 41; refine hPr.out.mono ?_; rintro e wb ⟨N', b, rfl, hP, hF, hOb⟩; have hE := cE.out N' b wb wa hOa.out hOb hP hF; have kB := hE.1.cell0; replace hE := Lib.hid hE; replace hP := Lib.hid hP; clear hOb hF)))
  all_goals
    have k6 : wb.cell? ⟨t, 1 + k, none⟩ = some (.int .i64 v) := by rw [Nat.add_comm 1 k]; exact hE.out.1.cellN hv.out
    have f6 : wb.frozen? ⟨t, 1 + k, none⟩ = false := frozen_of_row _ _ _ _ _ hE.out.1.row
    have hB := hE.out.1.bump k (v - 1)
    replace hB := Lib.hid hB
    go_wp2_with fail
    go_region
    all_goals
      go_wp2_with fail
      go_ret
      exact ⟨N', b, rfl, hP.out, hB.out.1.nil' (Own.refl [] _).drew, hE.out.2.2, (hE.out.2.1.trans (hB.out.2.mono (by simp))).drew⟩
end Go.Proofs.YtldagaliddgdjaaGreatDoor
