/- Package edge: living: a device that is online. Package edge: deviceBirth. Package edge: deviceData, deviceDeath. Package edge: death. Package edge: Take, of all kinds. Package edge: what holds of a node at all times; what a refusal changes. Plain. -/
import Derived.Test.YtjfmbjgniajagaaGreatDoorEdgeBear
import Derived.Test.YtjfmbjgniajagaaGreatDoorEdgeFind
import Derived.Test.YtjfmbjgniajagaaGreatDoorEdgeBirth
import Derived.Test.YtjfmbjgniajagaaGreatDoorEdgeData
import Derived.Deep.RegionHeld3
import Derived.Deep.LoopGhost
import Derived.Test.YtjfmbjgniajagaaGreatDoorEdgeTake
set_option linter.unusedSimpArgs false
set_option linter.unusedVariables false
namespace Go.Proofs.YtjfmbjgniajagaaGreatDoor
open Go.RowKit

def eLive (s : EN) (dn : ByteArray) (p : Pay) : Int :=
  if s.online = false then 5 else if rHas Dev.name s.dev dn = false then 5 else if (s.dev[rPos Dev.name s.dev dn]?).any (·.on) = false then 5
  else if eFits s p = false then 4 else 1
/-- What living comes to. -/
def LivePost (s : EN) (dn : ByteArray) (p : Pay) (L : EW) (w : World) (e : Ending) (w' : World) : Prop :=
  ∃ q, e = .returned (.tuple #[.pointer q, .int .i64 (eLive s dn p)]) ∧ Own [] w w' ∧ (eLive s dn p = 1 → ∃ d x, L.ds[rPos Dev.name s.dev dn]? = some d ∧ s.dev[rPos Dev.name s.dev dn]? = some x ∧ x.on = true ∧ x.name = dn ∧ q = some ⟨d.blk, 0, none⟩)
set_option maxRecDepth 100000 in
set_option maxHeartbeats 8000000 in
theorem living_any (n : Nat) (g nm : ByteArray) (L : EW) (s : EN) (dn : ByteArray) (p : Pay) (w : World) (h : EdgeAt w n g nm L s) (hr : Rises Dev.name s.dev) (h0 : 0 ≤ p.s) :
    Calls Tryz.prog 63 #[.pointer (some ⟨n, 0, none⟩), .string dn, p.val] w (LivePost s dn p L w) := by
  have hW0 := pbox_own w p
  have hP := fun W (ho : Own [] (pbox w p) W) => pbox_cells w p (S := []) (by simp) W ho
  have hC := fun W (ho : Own [] w W) => edge_cells h (S := []) (by simp) W ho
  have cFi := efind_any n g nm L s dn (pbox w p) (h.nil' hW0) hr
  have cF := fun W (ho : Own [] w W) => efits_any n g nm L s p W (h.nil' ho) h0
  have hlen := h.len
  have hl4 : s.dev.length ≤ 4 := h.few.2.2
  have hD := fun W d (hi : L.ds[rPos Dev.name s.dev dn]? = some d) (ho : Own [] w W) => dv_cell (h.nil' ho) hi
  have hON := fun W d x (hi : L.ds[rPos Dev.name s.dev dn]? = some d) (hx : s.dev[rPos Dev.name s.dev dn]? = some x) (ho : Own [] w W) => donline_any d x W ((h.nil' ho).devs _ d x hi hx)
  unfold LivePost
  have hv : p.val = .agg #[.int .u64 p.t, .bool p.h, .int .u64 p.s, .string p.u, .string p.b, .slice p.a p.M.length p.c] := rfl
  rw [hv] at cF ⊢
  simp only [pbox] at hW0 hP cFi
  obtain ⟨da, dc, hdv⟩ := h.dvs.sl
  rw [hdv] at hC
  obtain ⟨⟨k2, k3, k4, k5, k6, k7, k8⟩, _⟩ := hC _ hW0
  cases hhas : rHas Dev.name s.dev dn with
  | false =>
    have hc : eLive s dn p = 5 := by unfold eLive; rw [hhas]; split <;> simp
    rw [hc]
    rw [hhas] at cFi
    generalize rPos Dev.name s.dev dn = pos at *
    have hW0s := Lib.hid hW0
    replace hP := Lib.hid hP
    replace cFi := Lib.hid cFi
    replace hdv := Lib.hid hdv
    replace hlen := Lib.hid hlen
    clear hW0 hv hr h0 hD hON h hhas
    cases hon : s.online with
    | false =>
      rw [hon] at hC
      replace hC := Lib.hid hC
      clear cF hon
      go_enter Tryz.func63, Tryz.ntmps63
      go_wp2_with (go_at_call 60; (with_reducible refine cFi.out.mono ?_); rintro e w2 ⟨rfl, hO2⟩; have hX2 := hW0s.out.trans hO2; obtain ⟨⟨l2, l3, l4, l5, l6, l7, l8⟩, _⟩ := hC.out _ hX2; obtain ⟨r0, r1, r2, r3, r4, r5⟩ := hP.out _ hO2; replace hX2 := Lib.hid hX2)
      go_ret2
      exact ⟨_, rfl, hX2.out, fun h => absurd h (by decide)⟩
    | true =>
      rw [hon] at hC
      replace hC := Lib.hid hC
      clear cF hon
      go_enter Tryz.func63, Tryz.ntmps63
      go_wp2_with (go_at_call 60; (with_reducible refine cFi.out.mono ?_); rintro e w2 ⟨rfl, hO2⟩; have hX2 := hW0s.out.trans hO2; obtain ⟨⟨l2, l3, l4, l5, l6, l7, l8⟩, _⟩ := hC.out _ hX2; obtain ⟨r0, r1, r2, r3, r4, r5⟩ := hP.out _ hO2; replace hX2 := Lib.hid hX2)
      go_ret2
      exact ⟨_, rfl, hX2.out, fun h => absurd h (by decide)⟩
  | true =>
    obtain ⟨x, hx, hn⟩ := rHas_some hhas
    have hi : rPos Dev.name s.dev dn < L.ds.length := by rw [← hlen]; exact (List.getElem?_eq_some_iff.1 hx).1
    obtain ⟨d, hd⟩ : ∃ d, L.ds[rPos Dev.name s.dev dn]? = some d := ⟨_, List.getElem?_eq_getElem hi⟩
    replace hD := fun W ho => hD W d hd ho
    replace hON := fun W ho => hON W d x hd hx ho
    obtain ⟨gb, cp, hdv1, _⟩ := hD _ hW0
    rw [hdv1] at hdv
    cases hdv
    replace hD := fun (W : World) (ho : Own [] w W) => (hD W ho : ∃ gb cp, L.dv = .slice (some ⟨gb, 0, none⟩) L.ds.length cp ∧ W.cell? ⟨gb, rPos Dev.name s.dev dn, none⟩ = some (.pointer (some ⟨d.blk, 0, none⟩)))
    have hD2 := fun (W : World) (ho : Own [] w W) => (show W.cell? ⟨gb, rPos Dev.name s.dev dn, none⟩ = some (.pointer (some ⟨d.blk, 0, none⟩)) by
      obtain ⟨g2, c2, e2, hc2⟩ := hD W ho
      rw [hdv1] at e2
      cases e2
      exact hc2)
    have hl4' : L.ds.length ≤ 4 := by omega
    rw [hhas] at cFi
    have hc1 : s.online = false → eLive s dn p = 5 := fun h => by unfold eLive; rw [if_pos h]
    have hc2 : s.online = true → x.on = false → eLive s dn p = 5 := fun h h2 => by unfold eLive; rw [if_neg (by simp [h]), if_neg (by simp [hhas]), if_pos (by rw [hx]; simpa using h2)]
    have hc3 : s.online = true → x.on = true → eFits s p = false → eLive s dn p = 4 := fun h h2 h3 => by unfold eLive; rw [if_neg (by simp [h]), if_neg (by simp [hhas]), if_neg (by rw [hx]; simp [h2]), if_pos h3]
    have hc4 : s.online = true → x.on = true → eFits s p = true → eLive s dn p = 1 := fun h h2 h3 => by unfold eLive; rw [if_neg (by simp [h]), if_neg (by simp [hhas]), if_neg (by rw [hx]; simp [h2]), if_neg (by simp [h3])]
    generalize eLive s dn p = lv at *
    generalize rPos Dev.name s.dev dn = pos at *
    have hW0s := Lib.hid hW0
    replace hP := Lib.hid hP
    replace cFi := Lib.hid cFi
    replace hdv1 := Lib.hid hdv1
    replace hlen := Lib.hid hlen
    replace hD2 := Lib.hid hD2
    replace hd := Lib.hid hd
    replace hx := Lib.hid hx
    replace hn := Lib.hid hn
    generalize L.ds.length = N at *
    clear hW0 hv hr h0 hD h hhas hl4
    cases hon : s.online with
    | false =>
      obtain rfl := hc1 hon
      rw [hon] at hC
      replace hC := Lib.hid hC
      clear cF hon hON hc1 hc2 hc3 hc4
      go_enter Tryz.func63, Tryz.ntmps63
      go_wp2_with (go_at_call 60; (with_reducible refine cFi.out.mono ?_); rintro e w2 ⟨rfl, hO2⟩; have hX2 := hW0s.out.trans hO2; obtain ⟨⟨l2, l3, l4, l5, l6, l7, l8⟩, _⟩ := hC.out _ hX2; obtain ⟨r0, r1, r2, r3, r4, r5⟩ := hP.out _ hO2; replace hX2 := Lib.hid hX2)
      go_ret2
      exact ⟨_, rfl, hX2.out, fun h => absurd h (by decide)⟩
    | true =>
      rw [hon] at hC
      replace hC := Lib.hid hC
      rcases Bool.eq_false_or_eq_true x.on with hxo | hxo
      rotate_left
      ·
        obtain rfl := hc2 hon hxo
        rw [hxo] at hON
        replace hON := Lib.hid hON
        clear cF hxo hon hc1 hc2 hc3 hc4
        go_enter Tryz.func63, Tryz.ntmps63
        go_wp2_with (first
          | (go_at_call 60; (with_reducible refine cFi.out.mono ?_); rintro e w2 ⟨rfl, hO2⟩; have hX2 := hW0s.out.trans hO2; obtain ⟨⟨l2, l3, l4, l5, l6, l7, l8⟩, _⟩ := hC.out _ hX2; obtain ⟨r0, r1, r2, r3, r4, r5⟩ := hP.out _ hO2; have hcl := hD2.out _ hX2; have cN2 := Lib.hid (hON.out _ hX2); replace hX2 := Lib.hid hX2)
          | (go_at_call 98; (with_reducible refine cN2.out.mono ?_); rintro e w3 ⟨rfl, rfl⟩))
        go_ret2
        exact ⟨_, rfl, hX2.out, fun h => absurd h (by decide)⟩
      ·
        rw [hxo] at hON
        replace hON := Lib.hid hON
        cases hft : eFits s p with
        | false =>
          obtain rfl := hc3 hon hxo hft
          rw [hft] at cF
          replace cF := Lib.hid cF
          clear hft hxo hon hc1 hc2 hc3 hc4
          go_enter Tryz.func63, Tryz.ntmps63
          go_wp2_with (first
            | (go_at_call 60; (with_reducible refine cFi.out.mono ?_); rintro e w2 ⟨rfl, hO2⟩; have hX2 := hW0s.out.trans hO2; obtain ⟨⟨l2, l3, l4, l5, l6, l7, l8⟩, _⟩ := hC.out _ hX2; obtain ⟨r0, r1, r2, r3, r4, r5⟩ := hP.out _ hO2; have hcl := hD2.out _ hX2; have cN2 := Lib.hid (hON.out _ hX2); have cF2 := Lib.hid (cF.out _ hX2); replace hX2 := Lib.hid hX2)
            | (go_at_call 98; (with_reducible refine cN2.out.mono ?_); rintro e w3 ⟨rfl, rfl⟩)
            | (go_at_call 57; (with_reducible refine cF2.out.mono ?_); rintro e w3 ⟨rfl, hO3⟩; have hX3 := Lib.hid (hX2.out.trans hO3)))
          go_ret2
          exact ⟨_, rfl, hX3.out, fun h => absurd h (by decide)⟩
        | true =>
          obtain rfl := hc4 hon hxo hft
          rw [hft] at cF
          replace cF := Lib.hid cF
          replace hxo := Lib.hid hxo
          clear hft hon hc1 hc2 hc3 hc4
          go_enter Tryz.func63, Tryz.ntmps63
          go_wp2_with (first
            | (go_at_call 60; (with_reducible refine cFi.out.mono ?_); rintro e w2 ⟨rfl, hO2⟩; have hX2 := hW0s.out.trans hO2; obtain ⟨⟨l2, l3, l4, l5, l6, l7, l8⟩, _⟩ := hC.out _ hX2; obtain ⟨r0, r1, r2, r3, r4, r5⟩ := hP.out _ hO2; have hcl := hD2.out _ hX2; have cN2 := Lib.hid (hON.out _ hX2); have cF2 := Lib.hid (cF.out _ hX2); replace hX2 := Lib.hid hX2)
            | (go_at_call 98; (with_reducible refine cN2.out.mono ?_); rintro e w3 ⟨rfl, rfl⟩)
            | (go_at_call 57; (with_reducible refine cF2.out.mono ?_); rintro e w3 ⟨rfl, hO3⟩; have hX3 := hX2.out.trans hO3; obtain ⟨⟨m2, m3, m4, m5, m6, m7, m8⟩, _⟩ := hC.out _ hX3; have hcm := hD2.out _ hX3; replace hX3 := Lib.hid hX3))
          go_ret2
          exact ⟨_, rfl, hX3.out, fun _ => ⟨d, x, hd.out, hx.out, hxo.out, hn.out, rfl⟩⟩
end Go.Proofs.YtjfmbjgniajagaaGreatDoor

set_option linter.unusedSimpArgs false
set_option linter.unusedVariables false
namespace Go.Proofs.YtjfmbjgniajagaaGreatDoor
open Go.RowKit

def eDev (D : List Dev) (dn : ByteArray) (l : List Itm) : List Dev := if rHas Dev.name D dn = true then D.set (rPos Dev.name D dn) ⟨dn, true, l⟩ else D.take (rPos Dev.name D dn) ++ [⟨dn, true, l⟩] ++ D.drop (rPos Dev.name D dn)
def eDBirth (s : EN) (dn : ByteArray) (p : Pay) : Int × EN :=
  if s.online = false then (5, s) else if eFits s p = false then (4, s) else if dn.toList.isEmpty = true then (7, s)
  else if rHas Dev.name s.dev dn = false ∧ 4 ≤ s.dev.length then (8, s)
  else if (bornL p.M).1 ≠ 1 then ((bornL p.M).1, s)
  else if clashC (aMay s.al dn (bornL p.M).2).1 ≠ 1 then (clashC (aMay s.al dn (bornL p.M).2).1, s)
  else (1, { s with al := (aSet s.al dn (bornL p.M).2).2, dev := eDev s.dev dn (bornL p.M).2, want := (p.seq.1 + 1) % 256 })
theorem bear_any (n : Nat) (g nm : ByteArray) (L : EW) (s : EN) (dn : ByteArray) (a : Option Addr) (l : List Itm) (c : Nat) (w : World) (h : EdgeAt w n g nm L s) (hr : Rises Dev.name s.dev) (hdn : dn.toList.isEmpty = false) (h4 : ¬ (rHas Dev.name s.dev dn = false ∧ 4 ≤ s.dev.length)) (hA : ItemsAt w a l) (hl : l.length ≤ 32)
    (haf : ∀ b, a.map (·.block) = some b → b ∉ L.feet n) (hal : ∀ b, a.map (·.block) = some b → b < w.heap.size) :
    Calls Tryz.prog 62 #[.pointer (some ⟨n, 0, none⟩), .int .i64 (rPos Dev.name s.dev dn), .bool (rHas Dev.name s.dev dn), .string dn, .slice a l.length c] w (EPost n g nm L (1, { s with al := (aSet s.al dn l).2, dev := eDev s.dev dn l }) w) := by
  have hle := rPos_le (key := Dev.name) s.dev dn
  have hlen := h.len
  unfold eDev
  cases hh : rHas Dev.name s.dev dn with
  | true =>
    obtain ⟨x, hx, hn⟩ := rHas_some hh
    have hi : rPos Dev.name s.dev dn < L.ds.length := by rw [← hlen]; exact (List.getElem?_eq_some_iff.1 hx).1
    have := bear_yes n g nm L s _ _ x dn a l c w h (List.getElem?_eq_getElem hi) hx hA hl haf
    rw [hn] at this
    simpa using this
  | false =>
    have := bear_no n g nm L s (rPos Dev.name s.dev dn) dn a l c w h (by omega) (by rw [hh] at h4; simp at h4; omega) hdn hA hl haf hal
    simpa using this
set_option maxRecDepth 100000 in
set_option maxHeartbeats 8000000 in
theorem dbirth_any (n : Nat) (g nm : ByteArray) (L : EW) (s : EN) (dn : ByteArray) (p : Pay) (w : World) (h : EdgeAt w n g nm L s) (hr : Rises Dev.name s.dev) (hM : MetsAt w p.a p.M) (h0 : 0 ≤ p.s) (hE : Errs w) :
    Calls Tryz.prog 36 #[.pointer (some ⟨n, 0, none⟩), .string dn, p.val] w (EPost n g nm L (eDBirth s dn p) w) := by
  have hW0 := pbox_own w p
  have hP := fun W (ho : Own [] (pbox w p) W) => pbox_cells w p (S := []) (by simp) W ho
  have hPf := fun W (ho : Own (L.feet n) (pbox w p) W) => pbox_cells w p (S := L.feet n) (fun hx => Nat.lt_irrefl _ (h.lt _ hx)) W ho
  have hC := fun W (ho : Own [] w W) => edge_cells h (S := []) (by simp) W ho
  have hsame := fun W (ho : Own [] w W) => h.same ho
  have cFi := efind_any n g nm L s dn (pbox w p) (h.nil' hW0) hr
  have cF := fun W (ho : Own [] w W) => efits_any n g nm L s p W (h.nil' ho) h0
  have cB := fun W (ho : Own [] w W) => bornp_any p.a p.M p.c W (hM.nil' ho) (hE.nil ho)
  have hbl : (bornL p.M).2.length ≤ 32 := bornL_le p.M
  have cT := fun W a cap (ho : Own [] w W) (hA : ItemsAt W a (bornL p.M).2) => try_any L.tb L.tm s.al dn a (bornL p.M).2.length cap (itAt (bornL p.M).2) W ((h.nil' ho).tab) (itemRow_of hA) (by have := h.few.2.1; omega)
  have hI : ∀ W W' a cap, Own [] w W → OutRow W.heap.size W' a cap (bornL p.M).2 → ItemsAt W' a (bornL p.M).2 ∧ ((∀ b, a.map (·.block) = some b → b ∉ L.feet n) ∧ ∀ b, a.map (·.block) = some b → b < W'.heap.size) := fun W W' a cap ho hR =>
    ⟨hR.at_ (by omega), fun b hb hx => by have := h.lt b hx; have := (fresh_ge hR b hb).1; have := ho.size; omega, fun b hb => hR.blt hb⟩
  have cBr := fun W a cap (ho : Own [] w W) (hA : ItemsAt W a (bornL p.M).2) (hf : (∀ b, a.map (·.block) = some b → b ∉ L.feet n) ∧ ∀ b, a.map (·.block) = some b → b < W.heap.size) (hdn : dn.toList.isEmpty = false) (h4 : ¬ (rHas Dev.name s.dev dn = false ∧ 4 ≤ s.dev.length)) => bear_any n g nm L s dn a (bornL p.M).2 cap W (h.nil' ho) hr hdn h4 hA hbl hf.1 hf.2
  have cK0 := fun W L' (s' : EN) (hk : EdgeAt W n g nm L' s') (hf : eFits s' p = true) => etook_any n g nm L' s' p W hk h0 hf
  have hfe : ∀ W (L' : EW), Own [] w W → (∀ y ∈ L'.feet n, y ∈ L.feet n ∨ W.heap.size ≤ y) → (∀ y ∈ L'.feet n, y ∈ L.feet n ∨ w.heap.size ≤ y) := fun W L' ho hf y hy => by
    rcases hf y hy with h1 | h1
    · exact .inl h1
    · exact .inr (Nat.le_trans ho.size h1)
  simp only [itList_self] at cT
  obtain ⟨da, dc, hdv⟩ := h.dvs.sl
  rw [hdv] at hC
  have hlen := h.len
  have hl4 : s.dev.length ≤ 4 := h.few.2.2
  unfold EPost at cBr
  unfold Born2Post at cB
  unfold EPost eDBirth
  have hv : p.val = .agg #[.int .u64 p.t, .bool p.h, .int .u64 p.s, .string p.u, .string p.b, .slice p.a p.M.length p.c] := rfl
  rw [hv] at cF cK0 ⊢
  simp only [pbox] at hW0 hP hPf cFi
  obtain ⟨⟨k2, k3, k4, k5, k6, k7, k8⟩, _⟩ := hC _ hW0
  have hpos : rPos Dev.name s.dev dn ≤ s.dev.length := rPos_le _ _
  generalize hhas : rHas Dev.name s.dev dn = has at *
  generalize hps : rPos Dev.name s.dev dn = pos at *
  have hbo : (bornL p.M).1 ≠ 1 ∨ (bornL p.M).1 = 1 := by omega
  generalize hdd : eDev s.dev dn (bornL p.M).2 = dd at *
  generalize hss : (aSet s.al dn (bornL p.M).2).2 = sal at *
  generalize hmm : (aMay s.al dn (bornL p.M).2).1 = mm at *
  generalize bornL p.M = bo at *
  obtain ⟨bo1, bo2⟩ := bo
  simp only at *
  replace hhas := Lib.hid hhas
  replace hps := Lib.hid hps
  replace hdd := Lib.hid hdd
  replace hss := Lib.hid hss
  replace hmm := Lib.hid hmm
  replace hlen := Lib.hid hlen
  replace hdv := Lib.hid hdv
  have hW0s := Lib.hid hW0
  replace hP := Lib.hid hP
  replace hPf := Lib.hid hPf
  replace hC := Lib.hid hC
  replace hsame := Lib.hid hsame
  replace cFi := Lib.hid cFi
  replace cB := Lib.hid cB
  replace cT := Lib.hid cT
  replace hI := Lib.hid hI
  replace hfe := Lib.hid hfe
  clear hW0 hv hr hM hE h0
  cases hon : s.online with
  | false =>
    rw [if_pos rfl]
    rw [hon] at hC
    replace cF := Lib.hid cF
    clear cK0 cBr hon h
    go_enter Tryz.func36, Tryz.ntmps36
    go_wp2_with (first
      | (go_at_call 60; (with_reducible refine cFi.out.mono ?_); rintro e w2 ⟨rfl, hO2⟩; have hX2 := hW0s.out.trans hO2; obtain ⟨⟨l2, l3, l4, l5, l6, l7, l8⟩, _⟩ := hC.out _ hX2; obtain ⟨r0, r1, r2, r3, r4, r5⟩ := hP.out _ hO2; have cF2 := Lib.hid (cF.out _ hX2); replace hX2 := Lib.hid hX2; replace hO2 := Lib.hid hO2))
    go_ret
    exact ⟨rfl, hsame.out _ hX2.out⟩
  | true =>
    rw [if_neg (by simp)]
    rw [hon] at hC
    cases hft : eFits s p with
    | false =>
      rw [if_pos rfl]
      simp only [hft] at cF
      replace cF := Lib.hid cF
      clear cK0 cBr hon hft h
      go_enter Tryz.func36, Tryz.ntmps36
      go_wp2_with (first
        | (go_at_call 60; (with_reducible refine cFi.out.mono ?_); rintro e w2 ⟨rfl, hO2⟩; have hX2 := hW0s.out.trans hO2; obtain ⟨⟨l2, l3, l4, l5, l6, l7, l8⟩, _⟩ := hC.out _ hX2; obtain ⟨r0, r1, r2, r3, r4, r5⟩ := hP.out _ hO2; have cF2 := Lib.hid (cF.out _ hX2); replace hX2 := Lib.hid hX2; replace hO2 := Lib.hid hO2)
        | (go_at_call 57; (with_reducible refine cF2.out.mono ?_); rintro e w3 ⟨rfl, hO3⟩; have hX3 := hX2.out.trans hO3; have hO23 := hO2.out.trans hO3; obtain ⟨⟨m2, m3, m4, m5, m6, m7, m8⟩, _⟩ := hC.out _ hX3; obtain ⟨t0, t1, t2, t3, t4, t5⟩ := hP.out _ hO23; have cB3 := Lib.hid (cB.out _ hX3); replace hX3 := Lib.hid hX3; replace hO23 := Lib.hid hO23))
      go_ret
      exact ⟨rfl, hsame.out _ hX3.out⟩
    | true =>
      rw [if_neg (by simp)]
      simp only [hft] at cF
      replace cF := Lib.hid cF
      cases hdn : dn.toList.isEmpty with
      | true =>
        rw [if_pos rfl]
        have hdn2 : dn.toList = [] := by simpa using hdn
        have hdn3 : (dn.toList == []) = true := by rw [hdn2]; rfl
        clear cK0 cBr hon hft h hdn2
        go_enter Tryz.func36, Tryz.ntmps36
        go_wp2_with (first
          | (go_at_call 60; (with_reducible refine cFi.out.mono ?_); rintro e w2 ⟨rfl, hO2⟩; have hX2 := hW0s.out.trans hO2; obtain ⟨⟨l2, l3, l4, l5, l6, l7, l8⟩, _⟩ := hC.out _ hX2; obtain ⟨r0, r1, r2, r3, r4, r5⟩ := hP.out _ hO2; have cF2 := Lib.hid (cF.out _ hX2); replace hX2 := Lib.hid hX2; replace hO2 := Lib.hid hO2)
          | (go_at_call 57; (with_reducible refine cF2.out.mono ?_); rintro e w3 ⟨rfl, hO3⟩; have hX3 := hX2.out.trans hO3; have hO23 := hO2.out.trans hO3; obtain ⟨⟨m2, m3, m4, m5, m6, m7, m8⟩, _⟩ := hC.out _ hX3; obtain ⟨t0, t1, t2, t3, t4, t5⟩ := hP.out _ hO23; have cB3 := Lib.hid (cB.out _ hX3); replace hX3 := Lib.hid hX3; replace hO23 := Lib.hid hO23))
        go_ret
        exact ⟨rfl, hsame.out _ hX3.out⟩
      | false =>
        rw [if_neg (by simp)]
        have hdn3 : (dn.toList == []) = false := by cases hq : dn.toList with | nil => rw [hq] at hdn; cases hdn | cons => rfl
        by_cases h4 : has = false ∧ 4 ≤ s.dev.length
        · rw [if_pos h4]
          obtain ⟨rfl, h4⟩ := h4
          have h5 : 4 ≤ L.ds.length := by rw [← hlen.out]; exact h4
          have h6 : (4 : Int) ≤ (L.ds.length : Int) := by omega
          clear cK0 cBr hon hft h hdn h4 hl4
          go_enter Tryz.func36, Tryz.ntmps36
          go_wp2_with (first
            | (go_at_call 60; (with_reducible refine cFi.out.mono ?_); rintro e w2 ⟨rfl, hO2⟩; have hX2 := hW0s.out.trans hO2; obtain ⟨⟨l2, l3, l4, l5, l6, l7, l8⟩, _⟩ := hC.out _ hX2; obtain ⟨r0, r1, r2, r3, r4, r5⟩ := hP.out _ hO2; have cF2 := Lib.hid (cF.out _ hX2); replace hX2 := Lib.hid hX2; replace hO2 := Lib.hid hO2)
            | (go_at_call 57; (with_reducible refine cF2.out.mono ?_); rintro e w3 ⟨rfl, hO3⟩; have hX3 := hX2.out.trans hO3; have hO23 := hO2.out.trans hO3; obtain ⟨⟨m2, m3, m4, m5, m6, m7, m8⟩, _⟩ := hC.out _ hX3; obtain ⟨t0, t1, t2, t3, t4, t5⟩ := hP.out _ hO23; have cB3 := Lib.hid (cB.out _ hX3); replace hX3 := Lib.hid hX3; replace hO23 := Lib.hid hO23))
          go_ret
          exact ⟨rfl, hsame.out _ hX3.out⟩
        · rw [if_neg h4]
          replace cBr := fun W a cap ho hA hf => cBr W a cap ho hA hf hdn h4
          have hbr : has = true ∨ (has = false ∧ decide ((4 : Int) ≤ (L.ds.length : Int)) = false) := by
            rw [hlen.out] at h4
            cases has
            · simp at h4
              exact .inr ⟨rfl, by simp; omega⟩
            · exact .inl rfl
          have cK1 := Lib.hid fun W L' hk => cK0 W L' { s with al := sal, dev := dd } hk (show eFits { s with al := sal, dev := dd } p = true from hft)
          have hln : n ∈ L.feet n := by unfold EW.feet; simp
          have hrb : ∀ (L' : EW), L'.rb ∈ L'.feet n := fun L' => by unfold EW.feet; simp
          replace cBr := Lib.hid cBr
          replace hrb := Lib.hid hrb
          have hon2 := Lib.hid hon
          clear h4 cK0 hon hft h hdn hl4 k2 k3 k4 k5 k6 k7 k8
          by_cases hb1 : bo1 = 1
          · subst hb1
            rw [if_neg (by simp)]
            by_cases hc1 : clashC mm = 1
            · rw [if_neg (by simpa using hc1)]
              have hc2 : (clashC mm != 1) = false := by simpa using hc1
              clear hc1
              rcases hbr with rfl | ⟨rfl, h6⟩
              all_goals
                go_enter Tryz.func36, Tryz.ntmps36
                go_wp2_with (first
                  | (go_at_call 60; (with_reducible refine cFi.out.mono ?_); rintro e w2 ⟨rfl, hO2⟩; have hX2 := hW0s.out.trans hO2; obtain ⟨⟨l2, l3, l4, l5, l6, l7, l8⟩, _⟩ := hC.out _ hX2; obtain ⟨r0, r1, r2, r3, r4, r5⟩ := hP.out _ hO2; have cF2 := Lib.hid (cF.out _ hX2); replace hX2 := Lib.hid hX2; replace hO2 := Lib.hid hO2)
                  | (go_at_call 57; (with_reducible refine cF2.out.mono ?_); rintro e w3 ⟨rfl, hO3⟩; have hX3 := hX2.out.trans hO3; have hO23 := hO2.out.trans hO3; obtain ⟨⟨m2, m3, m4, m5, m6, m7, m8⟩, _⟩ := hC.out _ hX3; obtain ⟨t0, t1, t2, t3, t4, t5⟩ := hP.out _ hO23; have cB3 := Lib.hid (cB.out _ hX3); replace hX3 := Lib.hid hX3; replace hO23 := Lib.hid hO23)
                  | (go_at_call 50; (with_reducible refine cB3.out.mono ?_); rintro e w4 ⟨a, cap, rfl, hR4, hO4⟩; have hX4 := hX3.out.trans hO4; have hO24 := hO23.out.trans hO4; obtain ⟨⟨z2, z3, z4, z5, z6, z7, z8⟩, _⟩ := hC.out _ hX4; obtain ⟨hA4, hf4⟩ := hI.out _ _ _ _ hX3.out hR4; have cT4 := Lib.hid (cT.out _ _ cap hX4 hA4); replace hA4 := Lib.hid hA4; replace hf4 := Lib.hid hf4; replace hX4 := Lib.hid hX4; replace hO24 := Lib.hid hO24; clear hR4 hO4)
                  | (go_at_call 61; (with_reducible refine cT4.out.mono ?_); rintro e w5 ⟨rfl, hO5⟩; have hX5 := hX4.out.trans hO5; have hO25 := hO24.out.trans hO5; have cBr5 := Lib.hid (cBr.out _ _ cap hX5 (hA4.out.nil' hO5) ⟨hf4.out.1, fun b hb => Nat.lt_of_lt_of_le (hf4.out.2 b hb) hO5.size⟩); replace hX5 := Lib.hid hX5; replace hO25 := Lib.hid hO25; clear hO5)
                  | (go_at_call 51; (with_reducible refine (clash_any _ _).mono ?_); rintro e w6 ⟨rfl, rfl⟩)
                  | (go_at_call 62; (with_reducible refine cBr5.out.mono ?_); rintro e w7 ⟨rfl, L7, hE7, hO7, hf7⟩; obtain ⟨u0, u1, u2, u3, u4, u5⟩ := hPf.out _ (hO25.out.nil.trans hO7); have cK7 := Lib.hid (cK1.out _ _ hE7); replace hE7 := Lib.hid hE7; replace hO7 := Lib.hid hO7; replace hf7 := Lib.hid hf7)
                  | (go_at_call 59; (with_reducible refine cK7.out.mono ?_); rintro e w8 ⟨rfl, hE8, hO8⟩; replace hE8 := Lib.hid hE8; replace hO8 := Lib.hid hO8))
                go_ret
                have hE9 := hE8.out
                rw [hon2.out] at hE9
                refine ⟨rfl, epost_trans (hX5.out.nil.trans hO7.out) (hfe.out _ _ hX5.out hf7.out) ⟨L7, hE9, hO8.out.mono (fun y hy => by simp at hy; subst hy; exact hrb.out L7), fun y hy => .inl hy⟩⟩
            · rw [if_pos (by simpa using hc1)]
              have hc2 : (clashC mm != 1) = true := by simpa using hc1
              clear hc1
              rcases hbr with rfl | ⟨rfl, h6⟩
              all_goals
                go_enter Tryz.func36, Tryz.ntmps36
                go_wp2_with (first
                  | (go_at_call 60; (with_reducible refine cFi.out.mono ?_); rintro e w2 ⟨rfl, hO2⟩; have hX2 := hW0s.out.trans hO2; obtain ⟨⟨l2, l3, l4, l5, l6, l7, l8⟩, _⟩ := hC.out _ hX2; obtain ⟨r0, r1, r2, r3, r4, r5⟩ := hP.out _ hO2; have cF2 := Lib.hid (cF.out _ hX2); replace hX2 := Lib.hid hX2; replace hO2 := Lib.hid hO2)
                  | (go_at_call 57; (with_reducible refine cF2.out.mono ?_); rintro e w3 ⟨rfl, hO3⟩; have hX3 := hX2.out.trans hO3; have hO23 := hO2.out.trans hO3; obtain ⟨⟨m2, m3, m4, m5, m6, m7, m8⟩, _⟩ := hC.out _ hX3; obtain ⟨t0, t1, t2, t3, t4, t5⟩ := hP.out _ hO23; have cB3 := Lib.hid (cB.out _ hX3); replace hX3 := Lib.hid hX3; replace hO23 := Lib.hid hO23)
                  | (go_at_call 50; (with_reducible refine cB3.out.mono ?_); rintro e w4 ⟨a, cap, rfl, hR4, hO4⟩; have hX4 := hX3.out.trans hO4; have hO24 := hO23.out.trans hO4; obtain ⟨⟨z2, z3, z4, z5, z6, z7, z8⟩, _⟩ := hC.out _ hX4; obtain ⟨hA4, hf4⟩ := hI.out _ _ _ _ hX3.out hR4; have cT4 := Lib.hid (cT.out _ _ cap hX4 hA4); replace hA4 := Lib.hid hA4; replace hf4 := Lib.hid hf4; replace hX4 := Lib.hid hX4; replace hO24 := Lib.hid hO24; clear hR4 hO4)
                  | (go_at_call 61; (with_reducible refine cT4.out.mono ?_); rintro e w5 ⟨rfl, hO5⟩; have hX5 := hX4.out.trans hO5; have hO25 := hO24.out.trans hO5; have cBr5 := Lib.hid (cBr.out _ _ cap hX5 (hA4.out.nil' hO5) ⟨hf4.out.1, fun b hb => Nat.lt_of_lt_of_le (hf4.out.2 b hb) hO5.size⟩); replace hX5 := Lib.hid hX5; replace hO25 := Lib.hid hO25; clear hO5)
                  | (go_at_call 51; (with_reducible refine (clash_any _ _).mono ?_); rintro e w6 ⟨rfl, rfl⟩))
                go_ret
                exact ⟨rfl, hsame.out _ hX5.out⟩
          · rw [if_pos hb1]
            have hb2 : (bo1 != 1) = true := by simpa using hb1
            clear hb1
            rcases hbr with rfl | ⟨rfl, h6⟩
            all_goals
              go_enter Tryz.func36, Tryz.ntmps36
              go_wp2_with (first
                | (go_at_call 60; (with_reducible refine cFi.out.mono ?_); rintro e w2 ⟨rfl, hO2⟩; have hX2 := hW0s.out.trans hO2; obtain ⟨⟨l2, l3, l4, l5, l6, l7, l8⟩, _⟩ := hC.out _ hX2; obtain ⟨r0, r1, r2, r3, r4, r5⟩ := hP.out _ hO2; have cF2 := Lib.hid (cF.out _ hX2); replace hX2 := Lib.hid hX2; replace hO2 := Lib.hid hO2)
                | (go_at_call 57; (with_reducible refine cF2.out.mono ?_); rintro e w3 ⟨rfl, hO3⟩; have hX3 := hX2.out.trans hO3; have hO23 := hO2.out.trans hO3; obtain ⟨⟨m2, m3, m4, m5, m6, m7, m8⟩, _⟩ := hC.out _ hX3; obtain ⟨t0, t1, t2, t3, t4, t5⟩ := hP.out _ hO23; have cB3 := Lib.hid (cB.out _ hX3); replace hX3 := Lib.hid hX3; replace hO23 := Lib.hid hO23)
                | (go_at_call 50; (with_reducible refine cB3.out.mono ?_); rintro e w4 ⟨a, cap, rfl, hR4, hO4⟩; have hX4 := hX3.out.trans hO4; have hO24 := hO23.out.trans hO4; obtain ⟨⟨z2, z3, z4, z5, z6, z7, z8⟩, _⟩ := hC.out _ hX4; obtain ⟨hA4, hf4⟩ := hI.out _ _ _ _ hX3.out hR4; have cT4 := Lib.hid (cT.out _ _ cap hX4 hA4); replace hA4 := Lib.hid hA4; replace hf4 := Lib.hid hf4; replace hX4 := Lib.hid hX4; replace hO24 := Lib.hid hO24; clear hR4 hO4))
              go_ret
              exact ⟨rfl, hsame.out _ hX4.out⟩
end Go.Proofs.YtjfmbjgniajagaaGreatDoor

set_option linter.unusedSimpArgs false
set_option linter.unusedVariables false
namespace Go.Proofs.YtjfmbjgniajagaaGreatDoor
open Go.RowKit

def eDData (s : EN) (dn : ByteArray) (p : Pay) : Int × EN :=
  if eLive s dn p ≠ 1 then (eLive s dn p, s) else match s.dev[rPos Dev.name s.dev dn]? with
  | none => (5, s)
  | some x => if (updGo (aFind s.al dn) p.M x.items).1 ≠ 1 then ((updGo (aFind s.al dn) p.M x.items).1, s)
    else (1, { s with dev := s.dev.set (rPos Dev.name s.dev dn) ⟨x.name, true, (updGo (aFind s.al dn) p.M x.items).2⟩, want := (p.seq.1 + 1) % 256 })
def eDDeath (s : EN) (dn : ByteArray) (p : Pay) : Int × EN :=
  if eLive s dn p ≠ 1 then (eLive s dn p, s) else match s.dev[rPos Dev.name s.dev dn]? with
  | none => (5, s)
  | some x => (1, { s with al := aOthers s.al dn, dev := s.dev.set (rPos Dev.name s.dev dn) ⟨x.name, false, x.items⟩, want := (p.seq.1 + 1) % 256 })
theorem eLive_one {s : EN} {dn : ByteArray} {p : Pay} (h : eLive s dn p = 1) : s.online = true ∧ rHas Dev.name s.dev dn = true ∧ (∃ x, s.dev[rPos Dev.name s.dev dn]? = some x ∧ x.on = true ∧ x.name = dn) ∧ eFits s p = true := by
  unfold eLive at h
  split at h
  · cases h
  · rename_i h1
    split at h
    · cases h
    · rename_i h2
      split at h
      · cases h
      · rename_i h3
        split at h
        · cases h
        · rename_i h4
          have h2' : rHas Dev.name s.dev dn = true := by simpa using h2
          obtain ⟨x, hx, hn⟩ := rHas_some h2'
          rw [hx] at h3
          exact ⟨by simpa using h1, h2', ⟨x, hx, by simpa using h3, hn⟩, by simpa using h4⟩
theorem living_one {n : Nat} {g nm : ByteArray} {L : EW} {s : EN} {dn : ByteArray} {p : Pay} {w : World} (h : EdgeAt w n g nm L s) (hr : Rises Dev.name s.dev) (h0 : 0 ≤ p.s) (h1 : eLive s dn p = 1) {d : DW} (hd : L.ds[rPos Dev.name s.dev dn]? = some d) :
    Calls Tryz.prog 63 #[.pointer (some ⟨n, 0, none⟩), .string dn, p.val] w fun e w' => e = .returned (.tuple #[.pointer (some ⟨d.blk, 0, none⟩), .int .i64 1]) ∧ Own [] w w' :=
  (living_any n g nm L s dn p w h hr h0).mono (by
    rintro e w' ⟨q, rfl, hO, hq⟩
    obtain ⟨d', x, hd', _, _, _, rfl⟩ := hq h1
    rw [hd] at hd'
    cases hd'
    exact ⟨by rw [h1], hO⟩)
theorem living_not {n : Nat} {g nm : ByteArray} {L : EW} {s : EN} {dn : ByteArray} {p : Pay} {w : World} (h : EdgeAt w n g nm L s) (hr : Rises Dev.name s.dev) (h0 : 0 ≤ p.s) :
    Calls Tryz.prog 63 #[.pointer (some ⟨n, 0, none⟩), .string dn, p.val] w fun e w' => ∃ q, e = .returned (.tuple #[.pointer q, .int .i64 (eLive s dn p)]) ∧ Own [] w w' :=
  (living_any n g nm L s dn p w h hr h0).mono (by
    rintro e w' ⟨q, rfl, hO, hq⟩
    exact ⟨q, rfl, hO⟩)
theorem dev_told {W : World} {n : Nat} {g nm : ByteArray} {L : EW} {s : EN} (h : EdgeAt W n g nm L s) {i : Nat} {d : DW} {x : Dev} (hi : L.ds[i]? = some d) (hx : s.dev[i]? = some x) (hon : x.on = true) (a : Option Addr) (l : List Itm) (c : Nat) (hA : ItemsAt W a l) (hl : l.length ≤ 32) :
    Calls Tryz.prog 64 #[.pointer (some ⟨d.blk, 0, none⟩), .slice a l.length c] W fun e w' => e = .returned (.int .i64 0) ∧ ∃ L', EdgeAt w' n g nm L' { s with dev := s.dev.set i ⟨x.name, true, l⟩ } ∧ Own (L.feet n) W w' ∧ (∀ y ∈ L'.feet n, y ∈ L.feet n ∨ W.heap.size ≤ y) := by
  refine (vtold_any d x a l c W (h.devs i d x hi hx) hon hA hl).mono ?_
  rintro e w' ⟨rfl, d', hb, hP, hO, hf⟩
  obtain ⟨h1, h2⟩ := h.setDev (x' := ⟨x.name, true, l⟩) hi hP hb hO hf
  exact ⟨rfl, _, h1, hO.mono (fun y hy => by simp at hy; subst hy; exact (feet_dev L n i hi).symm.subset (List.mem_cons_self ..)), h2⟩
theorem dev_dies {W : World} {n : Nat} {g nm : ByteArray} {L : EW} {s : EN} (h : EdgeAt W n g nm L s) {i : Nat} {d : DW} {x : Dev} (hi : L.ds[i]? = some d) (hx : s.dev[i]? = some x) :
    Calls Tryz.prog 56 #[.pointer (some ⟨d.blk, 0, none⟩)] W fun e w' => (∃ c, e = .returned (.int .i64 c)) ∧ EdgeAt w' n g nm L { s with dev := s.dev.set i ⟨x.name, false, x.items⟩ } ∧ Own (L.feet n) W w' := by
  have hN := (feet_dev L n i hi).nodup_iff.1 h.apart
  refine (vdies_any d x W (h.devs i d x hi hx) (fun e => (List.nodup_cons.1 hN).1 (List.mem_append_left _ (blkOf_mem e)))).mono ?_
  rintro e w' ⟨hc, hP, hO⟩
  obtain ⟨h1, h2⟩ := h.setDev (x' := ⟨x.name, false, x.items⟩) hi hP rfl hO (fun b hb => .inl hb)
  obtain ⟨hl, he⟩ := List.getElem?_eq_some_iff.1 hi
  have e2 : L.ds.set i d = L.ds := by rw [← he]; exact List.set_getElem_self _
  rw [e2] at h1
  exact ⟨hc, h1, hO.mono (fun y hy => by simp at hy; subst hy; exact (feet_dev L n i hi).symm.subset (List.mem_cons_self ..))⟩
theorem tab_drop {W : World} {n : Nat} {g nm : ByteArray} {L : EW} {s : EN} (h : EdgeAt W n g nm L s) (dn : ByteArray) :
    Calls Tryz.prog 65 #[.pointer (some ⟨L.tb, 0, none⟩), .string dn] W fun e w' => (∃ c, e = .returned (.int .i64 c)) ∧ EdgeAt w' n g nm L { s with al := aOthers s.al dn } ∧ Own (L.feet n) W w' := by
  refine (drop_any L.tb L.tm s.al dn W h.tab (by have := h.few.2.1; omega)).mono ?_
  rintro e w' ⟨rfl, hT, hO⟩
  exact ⟨⟨_, rfl⟩, h.setTab (hO.mono (by simp)) hT (Nat.le_trans (List.length_filter_le _ _) h.few.2.1), hO.mono (fun y hy => by simp at hy; subst hy; unfold EW.feet; simp)⟩
theorem dview_items (a : ByteArray) (b : Bool) (c : Option Addr) (l k : Nat) (w : World) : (Instr.field 56 (.agg #[.string a, .bool b, .slice c l k]) 2).run Tryz.prog w = .ok (.slice c l k) w := by kernel_rfl
set_option maxRecDepth 100000 in
set_option maxHeartbeats 8000000 in
theorem ddeath_e (n : Nat) (g nm : ByteArray) (L : EW) (s : EN) (dn : ByteArray) (p : Pay) (w : World) (h : EdgeAt w n g nm L s) (hr : Rises Dev.name s.dev) (h0 : 0 ≤ p.s) :
    Calls Tryz.prog 38 #[.pointer (some ⟨n, 0, none⟩), .string dn, p.val] w (EPost n g nm L (eDDeath s dn p) w) := by
  have hW0 := pbox_own w p
  have hPf := fun W (ho : Own (L.feet n) (pbox w p) W) => pbox_cells w p (S := L.feet n) (fun hx => Nat.lt_irrefl _ (h.lt _ hx)) W ho
  obtain ⟨p0, p1, p2, p3, p4, p5⟩ := pbox_cells w p (S := []) (by simp) _ (Own.refl _ _)
  have hv : p.val = .agg #[.int .u64 p.t, .bool p.h, .int .u64 p.s, .string p.u, .string p.b, .slice p.a p.M.length p.c] := rfl
  unfold EPost eDDeath
  by_cases h1 : eLive s dn p = 1
  · rw [if_neg (by simpa using h1)]
    obtain ⟨_, _, ⟨x, hx, hon, hn⟩, hft⟩ := eLive_one h1
    have hi : rPos Dev.name s.dev dn < L.ds.length := by rw [← h.len]; exact (List.getElem?_eq_some_iff.1 hx).1
    obtain ⟨d, hd⟩ : ∃ d, L.ds[rPos Dev.name s.dev dn]? = some d := ⟨_, List.getElem?_eq_getElem hi⟩
    have cL := living_one (h.nil' hW0) hr h0 h1 hd
    rw [hx]
    simp only
    have hEd := fun W (ho : Own [] w W) => h.nil' ho
    have cD := fun W (ho : Own [] w W) => dev_dies (h.nil' ho) hd hx
    have hC := fun W s' (hk : EdgeAt W n g nm L s') => edge_cells hk (S := []) (by simp) W (Own.refl _ _)
    have cR := fun W s' (hk : EdgeAt W n g nm L s') => tab_drop hk dn
    have cK := fun W (s' : EN) (hk : EdgeAt W n g nm L s') (hf : eFits s' p = true) => etook_any n g nm L s' p W hk h0 hf
    rw [hv] at cL cK ⊢
    simp only [pbox] at hW0 hPf cL p0 p1 p2 p3 p4 p5
    have hft2 := Lib.hid (show eFits { s with dev := s.dev.set (rPos Dev.name s.dev dn) ⟨x.name, false, x.items⟩, al := aOthers s.al dn } p = true from hft)
    have hrb : L.rb ∈ L.feet n := by unfold EW.feet; simp
    generalize d.blk = db at *
    generalize rPos Dev.name s.dev dn = pos at *
    replace hW0 := Lib.hid hW0
    replace hPf := Lib.hid hPf
    replace cL := Lib.hid cL
    replace cD := Lib.hid cD
    replace hC := Lib.hid hC
    replace cR := Lib.hid cR
    replace cK := Lib.hid cK
    replace hrb := Lib.hid hrb
    clear h hr h0 h1 hv hx hon hn hft hi hd hEd
    go_enter Tryz.func38, Tryz.ntmps38
    go_wp2_with (first
      | (go_at_call 63; (with_reducible refine cL.out.mono ?_); rintro e w2 ⟨rfl, hO2⟩; have hX2 := hW0.out.trans hO2; have cD2 := Lib.hid (cD.out _ hX2); replace hX2 := Lib.hid hX2; replace hO2 := Lib.hid hO2)
      | (go_at_call 56; (with_reducible refine cD2.out.mono ?_); rintro e w3 ⟨⟨c3, rfl⟩, hE3, hO3⟩; obtain ⟨⟨_, _, _, _, _, k7, _⟩, _⟩ := hC.out _ _ hE3; have cR3 := Lib.hid (cR.out _ _ hE3); replace hO3 := Lib.hid hO3; clear hE3)
      | (go_at_call 65; (with_reducible refine cR3.out.mono ?_); rintro e w4 ⟨⟨c4, rfl⟩, hE4, hO4⟩; have hO24 := hO3.out.trans hO4; obtain ⟨u0, u1, u2, u3, u4, u5⟩ := hPf.out _ (hO2.out.nil.trans hO24); have cK4 := Lib.hid (cK.out _ _ hE4 hft2.out); replace hO24 := Lib.hid hO24; clear hE4 hO4)
      | (go_at_call 59; (with_reducible refine cK4.out.mono ?_); rintro e w5 ⟨rfl, hE5, hO5⟩; replace hE5 := Lib.hid hE5; replace hO5 := Lib.hid hO5))
    go_ret
    exact ⟨rfl, L, hE5.out, (hX2.out.nil.trans hO24.out).trans (hO5.out.mono (fun y hy => by simp at hy; subst hy; exact hrb.out)), fun y hy => .inl hy⟩
  · rw [if_pos h1]
    have cL := living_not (dn := dn) (h.nil' hW0) hr h0
    have hsame := Lib.hid fun W (ho : Own [] w W) => h.same ho
    have hb : (eLive s dn p != 1) = true := by simpa using h1
    rw [hv] at cL ⊢
    simp only [pbox] at hW0 cL p0 p1 p2 p3 p4 p5
    generalize eLive s dn p = lv at *
    replace hW0 := Lib.hid hW0
    replace cL := Lib.hid cL
    clear h hr h0 h1 hv hPf
    go_enter Tryz.func38, Tryz.ntmps38
    go_wp2_with (go_at_call 63; (with_reducible refine cL.out.mono ?_); rintro e w2 ⟨q2, rfl, hO2⟩; have hX2 := Lib.hid (hW0.out.trans hO2); clear hO2)
    go_ret
    exact ⟨rfl, hsame.out _ hX2.out⟩
set_option maxRecDepth 100000 in
set_option maxHeartbeats 8000000 in
theorem ddata_e (n : Nat) (g nm : ByteArray) (L : EW) (s : EN) (dn : ByteArray) (p : Pay) (w : World) (h : EdgeAt w n g nm L s) (hr : Rises Dev.name s.dev) (hM : MetsAt w p.a p.M) (h0 : 0 ≤ p.s) (hE : Errs w) :
    Calls Tryz.prog 37 #[.pointer (some ⟨n, 0, none⟩), .string dn, p.val] w (EPost n g nm L (eDData s dn p) w) := by
  have hW0 := pbox_own w p
  have hP := fun W (ho : Own [] (pbox w p) W) => pbox_cells w p (S := []) (by simp) W ho
  have hPf := fun W (ho : Own (L.feet n) (pbox w p) W) => pbox_cells w p (S := L.feet n) (fun hx => Nat.lt_irrefl _ (h.lt _ hx)) W ho
  obtain ⟨p0, p1, p2, p3, p4, p5⟩ := pbox_cells w p (S := []) (by simp) _ (Own.refl _ _)
  have hv : p.val = .agg #[.int .u64 p.t, .bool p.h, .int .u64 p.s, .string p.u, .string p.b, .slice p.a p.M.length p.c] := rfl
  have hsame := Lib.hid fun W (ho : Own [] w W) => h.same ho
  unfold EPost eDData
  by_cases h1 : eLive s dn p = 1
  · rw [if_neg (by simpa using h1)]
    obtain ⟨_, _, ⟨x, hx, hon, hn⟩, hft⟩ := eLive_one h1
    have hi : rPos Dev.name s.dev dn < L.ds.length := by rw [← h.len]; exact (List.getElem?_eq_some_iff.1 hx).1
    obtain ⟨d, hd⟩ : ∃ d, L.ds[rPos Dev.name s.dev dn]? = some d := ⟨_, List.getElem?_eq_getElem hi⟩
    have cL := living_one (h.nil' hW0) hr h0 h1 hd
    rw [hx]
    simp only
    have hxl := (h.devs _ d x hd hx).2.2.2
    have cV := fun W (ho : Own [] w W) => dview_any d x W ((h.nil' ho).devs _ d x hd hx)
    have hC := fun W (ho : Own [] w W) => edge_cells h (S := []) (by simp) W ho
    have cU := fun W a cap (ho : Own [] w W) (hA : ItemsAt W a x.items) => updp_any a x.items cap p.a p.M p.c L.tb L.tm s.al dn W hA (hM.nil' ho) (h.tab.own ho (by simp) (by simp)) (by omega) (hE.nil ho)
    have hul := Nat.le_trans (updGo_len (aFind s.al dn) p.M x.items) hxl
    have hat := fun W a cap B (hR : OutRow B W a cap x.items) => (hR.at_ (by omega) : ItemsAt W a x.items)
    have cT := fun W a cap (ho : Own [] w W) (hA : ItemsAt W a (updGo (aFind s.al dn) p.M x.items).2) => dev_told (h.nil' ho) hd hx hon a _ cap hA hul
    have cK := fun W L' (s' : EN) (hk : EdgeAt W n g nm L' s') (hf : eFits s' p = true) => etook_any n g nm L' s' p W hk h0 hf
    have hfe : ∀ W (L' : EW), Own [] w W → (∀ y ∈ L'.feet n, y ∈ L.feet n ∨ W.heap.size ≤ y) → (∀ y ∈ L'.feet n, y ∈ L.feet n ∨ w.heap.size ≤ y) := fun W L' ho hf y hy => by
      rcases hf y hy with h1 | h1
      · exact .inl h1
      · exact .inr (Nat.le_trans ho.size h1)
    unfold Born2Post at cU
    rw [hv] at cL cK ⊢
    simp only [pbox] at hW0 hP hPf cL p0 p1 p2 p3 p4 p5
    have hft2 := Lib.hid (fun l => (show eFits { s with dev := s.dev.set (rPos Dev.name s.dev dn) ⟨x.name, true, l⟩ } p = true from hft))
    have hrb : ∀ (L' : EW), L'.rb ∈ L'.feet n := fun L' => by unfold EW.feet; simp
    have hS := fun W (ho : Own [] (w.alloc (.cells #[.int .u64 p.t, .bool p.h, .int .u64 p.s, .string p.u, .string p.b, .slice p.a p.M.length p.c] 39)) W) => (show W.cell? ⟨n, 7, none⟩ = some (.pointer (some ⟨L.tb, 0, none⟩)) ∧ W.cell? ⟨w.heap.size, 5, none⟩ = some (.slice p.a p.M.length p.c) from ⟨(hC _ (hW0.trans ho)).1.2.2.2.2.2.1, (hP _ ho).2.2.2.2.2⟩)
    generalize updGo (aFind s.al dn) p.M x.items = up at *
    obtain ⟨up1, up2⟩ := up
    simp only at *
    generalize d.blk = db at *
    generalize rPos Dev.name s.dev dn = pos at *
    have hvi := dview_items
    replace hW0 := Lib.hid hW0
    replace hP := Lib.hid hP
    replace hPf := Lib.hid hPf
    replace cL := Lib.hid cL
    replace cV := Lib.hid cV
    replace cU := Lib.hid cU
    replace cT := Lib.hid cT
    replace hat := Lib.hid hat
    replace hC := Lib.hid hC
    replace cK := Lib.hid cK
    replace hrb := Lib.hid hrb
    replace hfe := Lib.hid hfe
    replace hS := Lib.hid hS
    have hul2 := Lib.hid hul
    clear h hr h0 h1 hv hx hon hn hft hi hd hM hE hul hxl
    by_cases hu : up1 = 1
    · subst hu
      rw [if_neg (by simp)]
      go_enter Tryz.func37, Tryz.ntmps37
      go_wp2_with (go_at_call 63; (with_reducible refine cL.out.mono ?_); rintro e w2 ⟨rfl, hO2⟩; have hX2 := hW0.out.trans hO2; have cV2 := Lib.hid (cV.out _ hX2.drew); obtain ⟨l7, l5⟩ := hS.out _ hO2; replace hX2 := Lib.hid hX2.drew; replace hO2 := Lib.hid hO2.drew)
      go_region_held3 (fun W => W.cell? ⟨n, 7, none⟩ = some (.pointer (some ⟨L.tb, 0, none⟩)) ∧ W.cell? ⟨w.heap.size, 5, none⟩ = some (.slice p.a p.M.length p.c))
        (first | go_keep | exact kA | exact kB)
        ((first
          | (go_at_call 28; (with_reducible refine cV2.out.mono ?_); rintro e w3 ⟨a3, cap3, rfl, hR3, hO3⟩; have hX3 := hX2.out.trans hO3; have hO23 := hO2.out.trans hO3; have kA := hS.out _ hO23; have cU3 := Lib.hid (cU.out _ _ cap3 hX3 (hat.out _ _ _ _ hR3)); replace hX3 := Lib.hid hX3; replace hO23 := Lib.hid hO23; clear hR3 hO3)
          | (go_at_call 58; (with_reducible refine cU3.out.mono ?_); rintro e w4 ⟨a4, cap4, rfl, hR4, hO4⟩; have hX4 := hX3.out.trans hO4; have hO24 := hO23.out.trans hO4; have kB := hS.out _ hO24; have cT4 := Lib.hid (cT.out _ _ cap4 hX4 (hR4.at_ (by have := hul2.out; omega))); replace hX4 := Lib.hid hX4; replace hO24 := Lib.hid hO24; clear hR4 hO4)))
      all_goals
        go_wp2_with (first
          | (go_at_call 64; (with_reducible refine cT4.out.mono ?_); rintro e w5 ⟨rfl, L5, hE5, hO5, hf5⟩; obtain ⟨u0, u1, u2, u3, u4, u5⟩ := hPf.out _ (hO24.out.nil.trans hO5); have cK5 := Lib.hid (cK.out _ _ _ hE5 (hft2.out _)); replace hO5 := Lib.hid hO5; replace hf5 := Lib.hid hf5; clear hE5)
          | (go_at_call 59; (with_reducible refine cK5.out.mono ?_); rintro e w6 ⟨rfl, hE6, hO6⟩; replace hE6 := Lib.hid hE6; replace hO6 := Lib.hid hO6))
        go_ret
        exact ⟨rfl, epost_trans (hX4.out.nil.trans hO5.out) (hfe.out _ _ hX4.out hf5.out) ⟨L5, hE6.out, hO6.out.mono (fun y hy => by simp at hy; subst hy; exact hrb.out L5), fun y hy => .inl hy⟩⟩
    · rw [if_pos hu]
      have hu1 : (up1 != 1) = true := by simpa using hu
      clear hu
      go_enter Tryz.func37, Tryz.ntmps37
      go_wp2_with (go_at_call 63; (with_reducible refine cL.out.mono ?_); rintro e w2 ⟨rfl, hO2⟩; have hX2 := hW0.out.trans hO2; have cV2 := Lib.hid (cV.out _ hX2.drew); obtain ⟨l7, l5⟩ := hS.out _ hO2; replace hX2 := Lib.hid hX2.drew; replace hO2 := Lib.hid hO2.drew)
      go_region_held3 (fun W => W.cell? ⟨n, 7, none⟩ = some (.pointer (some ⟨L.tb, 0, none⟩)) ∧ W.cell? ⟨w.heap.size, 5, none⟩ = some (.slice p.a p.M.length p.c))
        (first | go_keep | exact kA | exact kB)
        ((first
          | (go_at_call 28; (with_reducible refine cV2.out.mono ?_); rintro e w3 ⟨a3, cap3, rfl, hR3, hO3⟩; have hX3 := hX2.out.trans hO3; have hO23 := hO2.out.trans hO3; have kA := hS.out _ hO23; have cU3 := Lib.hid (cU.out _ _ cap3 hX3 (hat.out _ _ _ _ hR3)); replace hX3 := Lib.hid hX3; replace hO23 := Lib.hid hO23; clear hR3 hO3)
          | (go_at_call 58; (with_reducible refine cU3.out.mono ?_); rintro e w4 ⟨a4, cap4, rfl, hR4, hO4⟩; have hX4 := hX3.out.trans hO4; have hO24 := hO23.out.trans hO4; have kB := hS.out _ hO24; replace hX4 := Lib.hid hX4; replace hO24 := Lib.hid hO24; clear hR4 hO4)))
      all_goals
        go_wp2_with fail
        go_ret
        exact ⟨rfl, hsame.out _ hX4.out⟩
  · rw [if_pos h1]
    have cL := living_not (dn := dn) (h.nil' hW0) hr h0
    have hb : (eLive s dn p != 1) = true := by simpa using h1
    rw [hv] at cL ⊢
    simp only [pbox] at hW0 cL p0 p1 p2 p3 p4 p5
    generalize eLive s dn p = lv at *
    replace hW0 := Lib.hid hW0
    replace cL := Lib.hid cL
    clear h hr h0 h1 hv hPf hP hM hE
    go_enter Tryz.func37, Tryz.ntmps37
    go_wp2_with (go_at_call 63; (with_reducible refine cL.out.mono ?_); rintro e w2 ⟨q2, rfl, hO2⟩; have hX2 := Lib.hid (hW0.out.trans hO2); clear hO2)
    go_ret
    exact ⟨rfl, hsame.out _ hX2.out⟩
end Go.Proofs.YtjfmbjgniajagaaGreatDoor

set_option linter.unusedSimpArgs false
set_option linter.unusedVariables false
namespace Go.Proofs.YtjfmbjgniajagaaGreatDoor
open Go.RowKit

def dOff (x : Dev) : Dev := ⟨x.name, false, x.items⟩
def eDeath (s : EN) (p : Pay) : Int × EN :=
  if p.bd.2 = false then (9, s) else if s.online = false ∨ p.bd.1 ≠ s.bd then (2, s)
  else (1, { s with online := false, want := 0, begun := false, al := [], dev := s.dev.map dOff })
def offTo (D : List Dev) (i : Nat) : List Dev := (D.take i).map dOff ++ D.drop i
theorem offTo_zero (D : List Dev) : offTo D 0 = D := by simp [offTo]
theorem offTo_all (D : List Dev) : offTo D D.length = D.map dOff := by simp [offTo]
theorem offTo_get {D : List Dev} {i : Nat} {x : Dev} (h : D[i]? = some x) : (offTo D i)[i]? = some x := by
  have hl := (List.getElem?_eq_some_iff.1 h).1
  unfold offTo
  rw [List.getElem?_append_right (by simp; omega)]
  simpa [Nat.min_eq_left (Nat.le_of_lt hl)] using h
theorem offTo_step {D : List Dev} {i : Nat} {x : Dev} (h : D[i]? = some x) : (offTo D i).set i (dOff x) = offTo D (i + 1) := by
  obtain ⟨hl, rfl⟩ := List.getElem?_eq_some_iff.1 h
  have e1 : ((D.take i).map dOff).length = i := by simp; omega
  unfold offTo
  have e2 : D.drop i = D[i] :: D.drop (i + 1) := List.drop_eq_getElem_cons hl
  rw [List.set_append_right _ _ (by omega), e1, Nat.sub_self, e2, List.take_succ_eq_append_getElem hl]
  simp only [List.set_cons_zero, List.map_append, List.map_cons, List.map_nil, List.append_assoc, List.singleton_append]
set_option maxRecDepth 100000 in
set_option maxHeartbeats 1000000 in
theorem tclear_any (b m : Nat) (l : ATab) (w : World) (h : Tab w b m l) :
    Calls Tryz.prog 55 #[.pointer (some ⟨b, 0, none⟩)] w fun e w' => (∃ c, e = .returned (.int .i64 c)) ∧ Tab w' b m [] ∧ Own [m] w w' := by
  have hm : w.cell? ⟨b, 0, none⟩ = some (.map (some m)) := cell_of_row w b 0 _ _ _ h.row
  have cL := Lib.hid (len_any b m l w h)
  obtain ⟨w1, hrun, hM, hO, _⟩ := h.map.clear (P := Tryz.prog) aMapT 0
  have hT : Tab w1 b m [] := ⟨h.ne, hO.heap h.row (by simpa using h.ne), hM⟩
  have hr2 := fun ty => (h.map.clear (P := Tryz.prog) aMapT ty)
  cases l with
  | nil =>
    replace h := Lib.hid h
    clear hrun hM hO hT hr2
    go_enter Tryz.func55, Tryz.ntmps55
    go_wp2_with (go_at_call 29; (with_reducible refine cL.out.mono ?_); rintro e w2 ⟨rfl, rfl⟩)
    go_ret
    exact ⟨⟨_, rfl⟩, h.out, Own.refl _ _⟩
  | cons p r =>
    have hl : (0 : Int) < ((p :: r).length : Int) := by simp
    generalize (p :: r).length = len at *
    replace hT := Lib.hid hT
    replace hO := Lib.hid hO
    clear hM h hr2
    go_enter Tryz.func55, Tryz.ntmps55
    go_wp2_with (go_at_call 29; (with_reducible refine cL.out.mono ?_); rintro e w2 ⟨rfl, rfl⟩)
    go_ret
    exact ⟨⟨_, rfl⟩, hT.out, hO.out⟩
theorem EdgeAt.setRow {w w' : World} {n : Nat} {g nm : ByteArray} {L : EW} {s : EN} (h : EdgeAt w n g nm L s) {y : Int} {b : Bool} (ho : Own [L.rb] w w') (hR : Sq.RowAt w' L.rb y b) : EdgeAt w' n g nm L { s with want := y, begun := b } := by
  have hA := h.apart
  unfold EW.feet at hA
  simp only [List.nodup_cons, List.mem_cons, List.mem_append, not_or] at hA
  obtain ⟨⟨a1, a2, a3, a4, a5, a6⟩, ⟨b2, b3, b4, b5, b6⟩, _⟩ := hA
  have hno : ∀ x, x ≠ L.rb → x ∉ [L.rb] := fun x h1 => by simp [h1]
  refine ⟨ho.heap h.row (hno _ a1), hR, h.tab.own ho (hno _ (Ne.symm b2)) (hno _ (Ne.symm b3)), h.its.own' ho (fun b hb => hno b (fun e => b4 (e ▸ blkOf_mem hb))), h.dvs.own ho (fun b hb => hno b (fun e => b5 (e ▸ by simp [hb]))), h.len, fun i d x hd hx => ?_, h.apart, h.few⟩
  have hm : d ∈ L.ds := List.mem_of_getElem? hd
  have hin : ∀ b, b ∈ dFoot d → b ≠ L.rb := fun b hb e => b6 (List.mem_flatMap.2 ⟨d, hm, e ▸ hb⟩)
  exact (h.devs i d x hd hx).own ho (hno _ (hin _ (List.mem_cons_self ..))) (fun b hb => hno b (hin b (List.mem_cons_of_mem _ (blkOf_mem hb))))
theorem EdgeAt.setOn {w : World} {n : Nat} {g nm : ByteArray} {L : EW} {s : EN} (h : EdgeAt w n g nm L s) (v : Bool) :
    EdgeAt (w.setCell ⟨n, 2, none⟩ (.bool v)) n g nm L { s with online := v } ∧ Own [n] w (w.setCell ⟨n, 2, none⟩ (.bool v)) := by
  have hO2 : Own [n] w (w.setCell ⟨n, 2, none⟩ (.bool v)) := (Own.refl _ _).setCell (by simp) _
  have hA := h.apart
  unfold EW.feet at hA
  simp only [List.nodup_cons, List.mem_cons, List.mem_append, not_or] at hA
  obtain ⟨⟨a1, a2, a3, a4, a5, a6⟩, _⟩ := hA
  refine ⟨⟨heap_setCell_same _ _ _ _ _ _ h.row, h.rrow.own hO2 (by simpa using Ne.symm a1), h.tab.own hO2 (by simpa using Ne.symm a2) (by simpa using Ne.symm a3), h.its.own' hO2 (fun b hb => ?_), h.dvs.own hO2 (fun b hb => ?_), h.len, fun i d x hd hx => ?_, h.apart, h.few⟩, hO2⟩
  · have := blkOf_mem hb
    simp; rintro rfl
    exact a4 this
  · simp; rintro rfl
    exact a5 (by simp [hb])
  · have hm : d ∈ L.ds := List.mem_of_getElem? hd
    have hn2 : ∀ b, b ∈ dFoot d → b ≠ n := fun b hb e => by
      subst e
      exact a6 (List.mem_flatMap.2 ⟨d, hm, hb⟩)
    exact (h.devs i d x hd hx).own hO2 (by simpa using hn2 _ (List.mem_cons_self ..)) (fun b hb => by simpa using hn2 b (List.mem_cons_of_mem _ (blkOf_mem hb)))
theorem row_end {W : World} {n : Nat} {g nm : ByteArray} {L : EW} {s : EN} (h : EdgeAt W n g nm L s) :
    Calls Tryz.prog 54 #[.pointer (some ⟨L.rb, 0, none⟩)] W fun e w' => (∃ c, e = .returned (.bool c)) ∧ EdgeAt w' n g nm L { s with want := 0, begun := false } ∧ Own (L.feet n) W w' :=
  (Sq.end_any L.rb s.want s.begun W h.rrow).mono (by
    rintro e w' ⟨rfl, hR, hO⟩
    exact ⟨⟨_, rfl⟩, h.setRow hO hR, hO.mono (fun y hy => by simp at hy; subst hy; unfold EW.feet; simp)⟩)
theorem tab_clear {W : World} {n : Nat} {g nm : ByteArray} {L : EW} {s : EN} (h : EdgeAt W n g nm L s) :
    Calls Tryz.prog 55 #[.pointer (some ⟨L.tb, 0, none⟩)] W fun e w' => (∃ c, e = .returned (.int .i64 c)) ∧ EdgeAt w' n g nm L { s with al := [] } ∧ Own (L.feet n) W w' :=
  (tclear_any L.tb L.tm s.al W h.tab).mono (by
    rintro e w' ⟨hc, hT, hO⟩
    exact ⟨hc, h.setTab (hO.mono (by simp)) hT (by simp), hO.mono (fun y hy => by simp at hy; subst hy; unfold EW.feet; simp)⟩)
set_option maxRecDepth 100000 in
set_option maxHeartbeats 8000000 in
theorem death_any (n : Nat) (g nm : ByteArray) (L : EW) (s : EN) (dn : ByteArray) (p : Pay) (w : World) (h : EdgeAt w n g nm L s) (hM : MetsAt w p.a p.M) :
    Calls Tryz.prog 34 #[.pointer (some ⟨n, 0, none⟩), .string dn, p.val] w (EPost n g nm L (eDeath s p) w) := by
  have hW0 := pbox_own w p
  obtain ⟨p0, p1, p2, p3, p4, p5⟩ := pbox_cells w p (S := []) (by simp) _ (Own.refl _ _)
  have hv : p.val = .agg #[.int .u64 p.t, .bool p.h, .int .u64 p.s, .string p.u, .string p.b, .slice p.a p.M.length p.c] := rfl
  have hsame := Lib.hid fun W (ho : Own [] w W) => h.same ho
  have cB := fun W (ho : Own [] w W) => pbd_any p W (hM.nil' ho)
  have hE0 := fun W (ho : Own [] w W) => h.nil' ho
  have hC := fun W s' (hk : EdgeAt W n g nm L s') => edge_cells hk (S := []) (by simp) W (Own.refl _ _)
  have hlen := h.len
  have hl4 : L.ds.length ≤ 4 := by rw [← h.len]; exact h.few.2.2
  obtain ⟨da, dc, hdv⟩ := h.dvs.sl
  unfold EPost eDeath
  rw [hv] at cB ⊢
  simp only [pbox] at hW0 p0 p1 p2 p3 p4 p5
  generalize p.bd = bd at *
  obtain ⟨bd1, bd2⟩ := bd
  simp only at *
  cases bd2 with
  | false =>
    rw [if_pos rfl]
    replace hW0 := Lib.hid hW0
    replace cB := Lib.hid cB
    clear hE0 hC hlen hl4 hdv h hM hv
    go_enter Tryz.func34, Tryz.ntmps34
    go_wp2_with (go_at_call 48; (with_reducible refine (cB.out _ hW0.out).mono ?_); rintro e w2 ⟨rfl, hO2⟩; have hX2 := Lib.hid (hW0.out.trans hO2); clear hO2)
    go_ret
    exact ⟨rfl, hsame.out _ hX2.out⟩
  | true =>
    rw [if_neg (by simp)]
    have hC0 := fun W (ho : Own [] w W) => hC W s (h.nil' ho)
    cases hon : s.online with
    | false =>
      rw [if_pos (.inl rfl)]
      rw [hon] at hC0
      replace hC0 := Lib.hid hC0
      replace hW0 := Lib.hid hW0
      replace cB := Lib.hid cB
      clear hE0 hC hlen hl4 hdv h hM hv hon
      go_enter Tryz.func34, Tryz.ntmps34
      go_wp2_with (go_at_call 48; (with_reducible refine (cB.out _ hW0.out).mono ?_); rintro e w2 ⟨rfl, hO2⟩; have hX2 := hW0.out.trans hO2; obtain ⟨⟨k2, k3, _⟩, _⟩ := hC0.out _ hX2; replace hX2 := Lib.hid hX2; clear hO2)
      go_ret
      exact ⟨rfl, hsame.out _ hX2.out⟩
    | true =>
      rw [hon] at hC0
      by_cases hb : bd1 = s.bd
      · rw [if_neg (by simp [hb])]
        rw [hb] at cB
        replace hC0 := Lib.hid hC0
        replace cB := Lib.hid cB
        have hW0s := Lib.hid hW0
        have hE1 := Lib.hid fun W (ho : Own [] w W) => (h.nil' ho).setOn false
        have cR := Lib.hid fun W s' (hk : EdgeAt W n g nm L s') => row_end hk
        have cT := Lib.hid fun W s' (hk : EdgeAt W n g nm L s') => tab_clear hk
        have hnf : n ∈ L.feet n := by unfold EW.feet; simp
        replace hnf := Lib.hid hnf
        replace hC := Lib.hid hC
        replace hlen := Lib.hid hlen
        replace hon := Lib.hid hon
        have hsb : (s.bd != s.bd) = false := by simp
        clear hE0 hM hv hW0 hb h
        go_enter Tryz.func34, Tryz.ntmps34
        go_wp2_with (first
          | (go_at_call 48; (with_reducible refine (cB.out _ hW0s.out).mono ?_); rintro e w2 ⟨rfl, hO2⟩; have hX2 := hW0s.out.trans hO2; obtain ⟨⟨k2, k3, k4, k5, k6, k7, k8⟩, f2, _⟩ := hC0.out _ hX2; obtain ⟨hE2, hP2⟩ := hE1.out _ hX2; have cR2 := Lib.hid (cR.out _ _ hE2); replace hX2 := Lib.hid (hX2.nil.trans (hP2.mono (fun y hy => by simp at hy; subst hy; exact hnf.out))); clear hO2 hE2 hP2)
          | (go_at_call 54; (with_reducible refine cR2.out.mono ?_); rintro e w3 ⟨⟨c3, rfl⟩, hE3, hO3⟩; obtain ⟨⟨_, _, _, _, _, z7, _⟩, _⟩ := hC.out _ _ hE3; have cT3 := Lib.hid (cT.out _ _ hE3); replace hO3 := Lib.hid (hX2.out.trans hO3); clear hE3)
          | (go_at_call 55; (with_reducible refine cT3.out.mono ?_); rintro e w4 ⟨⟨c4, rfl⟩, hE4, hO4⟩; obtain ⟨⟨_, _, _, _, _, _, z8⟩, _⟩ := hC.out _ _ hE4; rw [hdv] at z8; replace hO4 := Lib.hid (hO3.out.trans hO4); replace hE4 := Lib.hid hE4))
        go_loopg [49] L.ds.length (fun m s49 wr => ∃ i : Nat, i ≤ L.ds.length ∧ m = L.ds.length - i ∧ s49 = .int .i64 i ∧
          Aside (EdgeAt wr n g nm L { s with online := false, want := 0, begun := false, al := [], dev := offTo s.dev i } ∧ Own (L.feet n) w wr))
        case atStart => exact ⟨0, Nat.zero_le _, rfl, rfl, by rw [offTo_zero]; exact hE4.out, hO4.out⟩
        case round =>
          obtain ⟨i, hi, rfl, rfl, hE, hO⟩ := hrel
          by_cases hlt : i < L.ds.length
          · have hdi := List.getElem?_eq_getElem hlt
            have hxi : s.dev[i]? = some (s.dev[i]'(by rw [hlen.out]; exact hlt)) := List.getElem?_eq_getElem _
            obtain ⟨gb, cp, e1, hcl⟩ := dv_cell hE hdi
            rw [hdv] at e1
            cases e1
            have cD := dev_dies hE hdi (offTo_get hxi)
            have hst := offTo_step hxi
            unfold dOff at hst
            rw [hst] at cD
            replace cD := Lib.hid cD
            replace hO := Lib.hid hO
            generalize hdb : L.ds[i].blk = db at *
            clear hE hxi hdi hst hdb
            go_wp2_with (go_at_call 56; (with_reducible refine cD.out.mono ?_); rintro e w5 ⟨⟨c5, rfl⟩, hE5, hO5⟩; replace hO5 := Lib.hid (hO.out.trans hO5); replace hE5 := Lib.hid hE5)
            go_roundg (L.ds.length - (i + 1))
            case rel => exact ⟨i + 1, by omega, rfl, by go_num, hE5.out, hO5.out⟩
            case measure => omega
          · have hie : i = s.dev.length := by rw [hlen.out]; omega
            have hE6 := hE
            rw [hie, offTo_all] at hE6
            replace hE6 := Lib.hid hE6
            replace hO := Lib.hid hO
            clear hE hie
            go_wp2_with fail
            go_ret
            exact ⟨rfl, L, hE6.out, hO.out, fun y hy => .inl hy⟩
      · rw [if_pos (.inr hb)]
        have hbb : (bd1 != s.bd) = true := by simpa using hb
        replace hC0 := Lib.hid hC0
        replace hW0 := Lib.hid hW0
        replace cB := Lib.hid cB
        clear hE0 hC hlen hl4 hdv h hM hv hon hb
        go_enter Tryz.func34, Tryz.ntmps34
        go_wp2_with (go_at_call 48; (with_reducible refine (cB.out _ hW0.out).mono ?_); rintro e w2 ⟨rfl, hO2⟩; have hX2 := hW0.out.trans hO2; obtain ⟨⟨k2, k3, _⟩, _⟩ := hC0.out _ hX2; replace hX2 := Lib.hid hX2; clear hO2)
        go_ret
        exact ⟨rfl, hsame.out _ hX2.out⟩
end Go.Proofs.YtjfmbjgniajagaaGreatDoor

set_option linter.unusedVariables false
namespace Go.Proofs.YtjfmbjgniajagaaGreatDoor
open Go.RowKit

set_option maxRecDepth 100000 in
set_option maxHeartbeats 4000000 in
theorem take2_any (n : Nat) (g nm : ByteArray) (L : EW) (s : EN) (dn : ByteArray) (p : Pay) (w : World) (h : EdgeAt w n g nm L s) (hr : Rises Dev.name s.dev) (hM : MetsAt w p.a p.M) (h0 : 0 ≤ p.s) (hE : Errs w) :
    Calls Tryz.prog 10 #[.pointer (some ⟨n, 0, none⟩), .int .i64 2, .string dn, p.val] w (EPost n g nm L (ePend (eDeath s p)) w) := by
  have hW0 := pbox_own w p
  obtain ⟨q0, q1, q2, q3, q4, q5⟩ := pbox_cells w p (S := []) (by simp) _ (Own.refl _ _)
  have cB := death_any n g nm L s dn p (pbox w p) (h.nil' hW0) (hM.nil' hW0)
  have hC := fun W L' s' (hk : EdgeAt W n g nm L' s') => edge_cells hk (S := []) (by simp) W (Own.refl _ _)
  obtain ⟨⟨k2, k3, k4, k5, k6, k7, k8⟩, _⟩ := edge_cells h (S := []) (by simp) _ hW0
  have hp := fun L' s' w2 (hE : EdgeAt w2 n g nm L' s') hO hs => epost_pend (w := w) (L := L) hW0 hE hO hs
  have hq := fun L' s' w2 (hE : EdgeAt w2 n g nm L' s') hO hs => epost_same (w := w) (L := L) hW0 hE hO hs
  have cN := enone_any n ⟨L.rb, 0, none⟩ (pbox w p) k4
  unfold EPost at cB ⊢
  have hv : p.val = .agg #[.int .u64 p.t, .bool p.h, .int .u64 p.s, .string p.u, .string p.b, .slice p.a p.M.length p.c] := rfl
  rw [hv] at cB ⊢
  simp only [pbox] at cB cN hW0 q0 q1 q2 q3 q4 q5 k4
  unfold ePend
  generalize eDeath s p = r at *
  obtain ⟨r1, r2⟩ := r
  simp only at cB ⊢
  replace hW0 := Lib.hid hW0
  replace cB := Lib.hid cB
  replace cN := Lib.hid cN
  replace hC := Lib.hid hC
  replace hp := Lib.hid hp
  replace hq := Lib.hid hq
  clear hv h hr hM h0 hE k2 k3 k5 k6 k7 k8
  by_cases h3 : 3 ≤ r1
  · rw [if_pos h3]
    go_enter Tryz.func10, Tryz.ntmps10
    go_wp2_with (first
      | (go_at_call 24; (with_reducible refine cN.out.mono ?_); rintro e w1 ⟨rfl, rfl⟩)
      | (go_at_call 25; go_in)
      | (go_at_call 34; (with_reducible refine cB.out.mono ?_); rintro e w2 ⟨rfl, L', hE', hO', hs'⟩; obtain ⟨⟨_, _, _, y5, _, _, _⟩, _, _, f5, _, _, _⟩ := hC.out _ _ _ hE'; replace hE' := Lib.hid hE'; replace hO' := Lib.hid hO'; replace hs' := Lib.hid hs'))
    go_ret
    exact ⟨rfl, hp.out _ _ _ hE'.out hO'.out hs'.out⟩
  · rw [if_neg h3]
    go_enter Tryz.func10, Tryz.ntmps10
    go_wp2_with (first
      | (go_at_call 24; (with_reducible refine cN.out.mono ?_); rintro e w1 ⟨rfl, rfl⟩)
      | (go_at_call 25; go_in)
      | (go_at_call 34; (with_reducible refine cB.out.mono ?_); rintro e w2 ⟨rfl, L', hE', hO', hs'⟩; replace hE' := Lib.hid hE'; replace hO' := Lib.hid hO'; replace hs' := Lib.hid hs'))
    go_ret
    exact ⟨rfl, hq.out _ _ _ hE'.out hO'.out hs'.out⟩
set_option maxRecDepth 100000 in
set_option maxHeartbeats 4000000 in
theorem take5_any (n : Nat) (g nm : ByteArray) (L : EW) (s : EN) (dn : ByteArray) (p : Pay) (w : World) (h : EdgeAt w n g nm L s) (hr : Rises Dev.name s.dev) (hM : MetsAt w p.a p.M) (h0 : 0 ≤ p.s) (hE : Errs w) :
    Calls Tryz.prog 10 #[.pointer (some ⟨n, 0, none⟩), .int .i64 5, .string dn, p.val] w (EPost n g nm L (ePend (eDBirth s dn p)) w) := by
  have hW0 := pbox_own w p
  obtain ⟨q0, q1, q2, q3, q4, q5⟩ := pbox_cells w p (S := []) (by simp) _ (Own.refl _ _)
  have cB := dbirth_any n g nm L s dn p (pbox w p) (h.nil' hW0) hr (hM.nil' hW0) h0 (hE.nil hW0)
  have hC := fun W L' s' (hk : EdgeAt W n g nm L' s') => edge_cells hk (S := []) (by simp) W (Own.refl _ _)
  obtain ⟨⟨k2, k3, k4, k5, k6, k7, k8⟩, _⟩ := edge_cells h (S := []) (by simp) _ hW0
  have hp := fun L' s' w2 (hE : EdgeAt w2 n g nm L' s') hO hs => epost_pend (w := w) (L := L) hW0 hE hO hs
  have hq := fun L' s' w2 (hE : EdgeAt w2 n g nm L' s') hO hs => epost_same (w := w) (L := L) hW0 hE hO hs
  have cN := enone_any n ⟨L.rb, 0, none⟩ (pbox w p) k4
  unfold EPost at cB ⊢
  have hv : p.val = .agg #[.int .u64 p.t, .bool p.h, .int .u64 p.s, .string p.u, .string p.b, .slice p.a p.M.length p.c] := rfl
  rw [hv] at cB ⊢
  simp only [pbox] at cB cN hW0 q0 q1 q2 q3 q4 q5 k4
  unfold ePend
  generalize eDBirth s dn p = r at *
  obtain ⟨r1, r2⟩ := r
  simp only at cB ⊢
  replace hW0 := Lib.hid hW0
  replace cB := Lib.hid cB
  replace cN := Lib.hid cN
  replace hC := Lib.hid hC
  replace hp := Lib.hid hp
  replace hq := Lib.hid hq
  clear hv h hr hM h0 hE k2 k3 k5 k6 k7 k8
  by_cases h3 : 3 ≤ r1
  · rw [if_pos h3]
    go_enter Tryz.func10, Tryz.ntmps10
    go_wp2_with (first
      | (go_at_call 24; (with_reducible refine cN.out.mono ?_); rintro e w1 ⟨rfl, rfl⟩)
      | (go_at_call 25; go_in)
      | (go_at_call 36; (with_reducible refine cB.out.mono ?_); rintro e w2 ⟨rfl, L', hE', hO', hs'⟩; obtain ⟨⟨_, _, _, y5, _, _, _⟩, _, _, f5, _, _, _⟩ := hC.out _ _ _ hE'; replace hE' := Lib.hid hE'; replace hO' := Lib.hid hO'; replace hs' := Lib.hid hs'))
    go_ret
    exact ⟨rfl, hp.out _ _ _ hE'.out hO'.out hs'.out⟩
  · rw [if_neg h3]
    go_enter Tryz.func10, Tryz.ntmps10
    go_wp2_with (first
      | (go_at_call 24; (with_reducible refine cN.out.mono ?_); rintro e w1 ⟨rfl, rfl⟩)
      | (go_at_call 25; go_in)
      | (go_at_call 36; (with_reducible refine cB.out.mono ?_); rintro e w2 ⟨rfl, L', hE', hO', hs'⟩; replace hE' := Lib.hid hE'; replace hO' := Lib.hid hO'; replace hs' := Lib.hid hs'))
    go_ret
    exact ⟨rfl, hq.out _ _ _ hE'.out hO'.out hs'.out⟩
set_option maxRecDepth 100000 in
set_option maxHeartbeats 4000000 in
theorem take6_any (n : Nat) (g nm : ByteArray) (L : EW) (s : EN) (dn : ByteArray) (p : Pay) (w : World) (h : EdgeAt w n g nm L s) (hr : Rises Dev.name s.dev) (hM : MetsAt w p.a p.M) (h0 : 0 ≤ p.s) (hE : Errs w) :
    Calls Tryz.prog 10 #[.pointer (some ⟨n, 0, none⟩), .int .i64 6, .string dn, p.val] w (EPost n g nm L (ePend (eDDeath s dn p)) w) := by
  have hW0 := pbox_own w p
  obtain ⟨q0, q1, q2, q3, q4, q5⟩ := pbox_cells w p (S := []) (by simp) _ (Own.refl _ _)
  have cB := ddeath_e n g nm L s dn p (pbox w p) (h.nil' hW0) hr h0
  have hC := fun W L' s' (hk : EdgeAt W n g nm L' s') => edge_cells hk (S := []) (by simp) W (Own.refl _ _)
  obtain ⟨⟨k2, k3, k4, k5, k6, k7, k8⟩, _⟩ := edge_cells h (S := []) (by simp) _ hW0
  have hp := fun L' s' w2 (hE : EdgeAt w2 n g nm L' s') hO hs => epost_pend (w := w) (L := L) hW0 hE hO hs
  have hq := fun L' s' w2 (hE : EdgeAt w2 n g nm L' s') hO hs => epost_same (w := w) (L := L) hW0 hE hO hs
  have cN := enone_any n ⟨L.rb, 0, none⟩ (pbox w p) k4
  unfold EPost at cB ⊢
  have hv : p.val = .agg #[.int .u64 p.t, .bool p.h, .int .u64 p.s, .string p.u, .string p.b, .slice p.a p.M.length p.c] := rfl
  rw [hv] at cB ⊢
  simp only [pbox] at cB cN hW0 q0 q1 q2 q3 q4 q5 k4
  unfold ePend
  generalize eDDeath s dn p = r at *
  obtain ⟨r1, r2⟩ := r
  simp only at cB ⊢
  replace hW0 := Lib.hid hW0
  replace cB := Lib.hid cB
  replace cN := Lib.hid cN
  replace hC := Lib.hid hC
  replace hp := Lib.hid hp
  replace hq := Lib.hid hq
  clear hv h hr hM h0 hE k2 k3 k5 k6 k7 k8
  by_cases h3 : 3 ≤ r1
  · rw [if_pos h3]
    go_enter Tryz.func10, Tryz.ntmps10
    go_wp2_with (first
      | (go_at_call 24; (with_reducible refine cN.out.mono ?_); rintro e w1 ⟨rfl, rfl⟩)
      | (go_at_call 25; go_in)
      | (go_at_call 38; (with_reducible refine cB.out.mono ?_); rintro e w2 ⟨rfl, L', hE', hO', hs'⟩; obtain ⟨⟨_, _, _, y5, _, _, _⟩, _, _, f5, _, _, _⟩ := hC.out _ _ _ hE'; replace hE' := Lib.hid hE'; replace hO' := Lib.hid hO'; replace hs' := Lib.hid hs'))
    go_ret
    exact ⟨rfl, hp.out _ _ _ hE'.out hO'.out hs'.out⟩
  · rw [if_neg h3]
    go_enter Tryz.func10, Tryz.ntmps10
    go_wp2_with (first
      | (go_at_call 24; (with_reducible refine cN.out.mono ?_); rintro e w1 ⟨rfl, rfl⟩)
      | (go_at_call 25; go_in)
      | (go_at_call 38; (with_reducible refine cB.out.mono ?_); rintro e w2 ⟨rfl, L', hE', hO', hs'⟩; replace hE' := Lib.hid hE'; replace hO' := Lib.hid hO'; replace hs' := Lib.hid hs'))
    go_ret
    exact ⟨rfl, hq.out _ _ _ hE'.out hO'.out hs'.out⟩
set_option maxRecDepth 100000 in
set_option maxHeartbeats 4000000 in
theorem take7_any (n : Nat) (g nm : ByteArray) (L : EW) (s : EN) (dn : ByteArray) (p : Pay) (w : World) (h : EdgeAt w n g nm L s) (hr : Rises Dev.name s.dev) (hM : MetsAt w p.a p.M) (h0 : 0 ≤ p.s) (hE : Errs w) :
    Calls Tryz.prog 10 #[.pointer (some ⟨n, 0, none⟩), .int .i64 7, .string dn, p.val] w (EPost n g nm L (ePend (eDData s dn p)) w) := by
  have hW0 := pbox_own w p
  obtain ⟨q0, q1, q2, q3, q4, q5⟩ := pbox_cells w p (S := []) (by simp) _ (Own.refl _ _)
  have cB := ddata_e n g nm L s dn p (pbox w p) (h.nil' hW0) hr (hM.nil' hW0) h0 (hE.nil hW0)
  have hC := fun W L' s' (hk : EdgeAt W n g nm L' s') => edge_cells hk (S := []) (by simp) W (Own.refl _ _)
  obtain ⟨⟨k2, k3, k4, k5, k6, k7, k8⟩, _⟩ := edge_cells h (S := []) (by simp) _ hW0
  have hp := fun L' s' w2 (hE : EdgeAt w2 n g nm L' s') hO hs => epost_pend (w := w) (L := L) hW0 hE hO hs
  have hq := fun L' s' w2 (hE : EdgeAt w2 n g nm L' s') hO hs => epost_same (w := w) (L := L) hW0 hE hO hs
  have cN := enone_any n ⟨L.rb, 0, none⟩ (pbox w p) k4
  unfold EPost at cB ⊢
  have hv : p.val = .agg #[.int .u64 p.t, .bool p.h, .int .u64 p.s, .string p.u, .string p.b, .slice p.a p.M.length p.c] := rfl
  rw [hv] at cB ⊢
  simp only [pbox] at cB cN hW0 q0 q1 q2 q3 q4 q5 k4
  unfold ePend
  generalize eDData s dn p = r at *
  obtain ⟨r1, r2⟩ := r
  simp only at cB ⊢
  replace hW0 := Lib.hid hW0
  replace cB := Lib.hid cB
  replace cN := Lib.hid cN
  replace hC := Lib.hid hC
  replace hp := Lib.hid hp
  replace hq := Lib.hid hq
  clear hv h hr hM h0 hE k2 k3 k5 k6 k7 k8
  by_cases h3 : 3 ≤ r1
  · rw [if_pos h3]
    go_enter Tryz.func10, Tryz.ntmps10
    go_wp2_with (first
      | (go_at_call 24; (with_reducible refine cN.out.mono ?_); rintro e w1 ⟨rfl, rfl⟩)
      | (go_at_call 25; go_in)
      | (go_at_call 37; (with_reducible refine cB.out.mono ?_); rintro e w2 ⟨rfl, L', hE', hO', hs'⟩; obtain ⟨⟨_, _, _, y5, _, _, _⟩, _, _, f5, _, _, _⟩ := hC.out _ _ _ hE'; replace hE' := Lib.hid hE'; replace hO' := Lib.hid hO'; replace hs' := Lib.hid hs'))
    go_ret
    exact ⟨rfl, hp.out _ _ _ hE'.out hO'.out hs'.out⟩
  · rw [if_neg h3]
    go_enter Tryz.func10, Tryz.ntmps10
    go_wp2_with (first
      | (go_at_call 24; (with_reducible refine cN.out.mono ?_); rintro e w1 ⟨rfl, rfl⟩)
      | (go_at_call 25; go_in)
      | (go_at_call 37; (with_reducible refine cB.out.mono ?_); rintro e w2 ⟨rfl, L', hE', hO', hs'⟩; replace hE' := Lib.hid hE'; replace hO' := Lib.hid hO'; replace hs' := Lib.hid hs'))
    go_ret
    exact ⟨rfl, hq.out _ _ _ hE'.out hO'.out hs'.out⟩
set_option maxRecDepth 100000 in
set_option maxHeartbeats 4000000 in
theorem takeX_any (n : Nat) (g nm : ByteArray) (L : EW) (s : EN) (dn : ByteArray) (p : Pay) (k : Int) (w : World) (h : EdgeAt w n g nm L s) (h1 : k ≠ 1) (h2 : k ≠ 2) (h3 : k ≠ 3) (h5 : k ≠ 5) (h6 : k ≠ 6) (h7 : k ≠ 7) :
    Calls Tryz.prog 10 #[.pointer (some ⟨n, 0, none⟩), .int .i64 k, .string dn, p.val] w (EPost n g nm L (0, s) w) := by
  have hW0 := pbox_own w p
  obtain ⟨q0, q1, q2, q3, q4, q5⟩ := pbox_cells w p (S := []) (by simp) _ (Own.refl _ _)
  obtain ⟨⟨k2, k3, k4, k5, k6, k7, k8⟩, _⟩ := edge_cells h (S := []) (by simp) _ hW0
  have hsame := fun W (ho : Own [] w W) => h.same ho
  have cN := enone_any n ⟨L.rb, 0, none⟩ (pbox w p) k4
  unfold EPost
  have hv : p.val = .agg #[.int .u64 p.t, .bool p.h, .int .u64 p.s, .string p.u, .string p.b, .slice p.a p.M.length p.c] := rfl
  rw [hv]
  simp only [pbox] at cN hW0 q0 q1 q2 q3 q4 q5 k4
  have b1 : (k == 1) = false := by simpa using h1
  have b2 : (k == 2) = false := by simpa using h2
  have b3 : (k == 3) = false := by simpa using h3
  have b5 : (k == 5) = false := by simpa using h5
  have b6 : (k == 6) = false := by simpa using h6
  have b7 : (k == 7) = false := by simpa using h7
  replace hsame := Lib.hid hsame
  replace cN := Lib.hid cN
  replace hW0 := Lib.hid hW0
  clear hv h k2 k3 k5 k6 k7 k8 h1 h2 h3 h5 h6 h7
  go_enter Tryz.func10, Tryz.ntmps10
  go_wp2_with (first
    | (go_at_call 24; (with_reducible refine cN.out.mono ?_); rintro e w1 ⟨rfl, rfl⟩)
    | (go_at_call 25; go_in)
    | (go_at_call 39; go_in))
  go_ret
  exact ⟨rfl, hsame.out _ (hW0.out.alloc _)⟩
/-- What a node comes to that is told something. -/
def eTake (s : EN) (k : Int) (dn : ByteArray) (p : Pay) : Int × EN :=
  if k = 1 then ePend (eBirth s p) else if k = 2 then ePend (eDeath s p) else if k = 3 then ePend (eData s p) else if k = 5 then ePend (eDBirth s dn p)
  else if k = 6 then ePend (eDDeath s dn p) else if k = 7 then ePend (eDData s dn p) else (0, s)
theorem take_e (n : Nat) (g nm : ByteArray) (L : EW) (s : EN) (k : Int) (dn : ByteArray) (p : Pay) (w : World) (h : EdgeAt w n g nm L s) (hr : Rises Dev.name s.dev) (hM : MetsAt w p.a p.M) (h0 : 0 ≤ p.s) (hE : Errs w) :
    Calls Tryz.prog 10 #[.pointer (some ⟨n, 0, none⟩), .int .i64 k, .string dn, p.val] w (EPost n g nm L (eTake s k dn p) w) := by
  unfold eTake
  by_cases h1 : k = 1
  · subst h1; rw [if_pos rfl]; exact take1_any n g nm L s dn p w h hM h0 hE
  rw [if_neg h1]
  by_cases h2 : k = 2
  · subst h2; rw [if_pos rfl]; exact take2_any n g nm L s dn p w h hr hM h0 hE
  rw [if_neg h2]
  by_cases h3 : k = 3
  · subst h3; rw [if_pos rfl]; exact take3_any n g nm L s dn p w h hM h0 hE
  rw [if_neg h3]
  by_cases h5 : k = 5
  · subst h5; rw [if_pos rfl]; exact take5_any n g nm L s dn p w h hr hM h0 hE
  rw [if_neg h5]
  by_cases h6 : k = 6
  · subst h6; rw [if_pos rfl]; exact take6_any n g nm L s dn p w h hr hM h0 hE
  rw [if_neg h6]
  by_cases h7 : k = 7
  · subst h7; rw [if_pos rfl]; exact take7_any n g nm L s dn p w h hr hM h0 hE
  rw [if_neg h7]
  exact takeX_any n g nm L s dn p k w h h1 h2 h3 h5 h6 h7
end Go.Proofs.YtjfmbjgniajagaaGreatDoor

set_option linter.unusedVariables false
namespace Go.Proofs.YtjfmbjgniajagaaGreatDoor
open Go.RowKit

/-- What holds of a node at all times. -/
def EInv (s : EN) : Prop := Rises Dev.name s.dev ∧ (s.online = false → s.begun = false ∧ s.al = [] ∧ ∀ x ∈ s.dev, x.on = false)
theorem einv_new : EInv ⟨false, 0, 0, false, false, [], [], []⟩ := ⟨List.Pairwise.nil, fun _ => ⟨rfl, rfl, by simp⟩⟩
theorem eDev_rises {D : List Dev} (h : Rises Dev.name D) (dn : ByteArray) (l : List Itm) : Rises Dev.name (eDev D dn l) := by
  unfold eDev
  cases hh : rHas Dev.name D dn with
  | true =>
    obtain ⟨x, hx, hn⟩ := rHas_some hh
    rw [if_pos rfl]
    exact set_rises h hx hn.symm
  | false =>
    rw [if_neg (by simp)]
    exact rIns_rises (x := ⟨dn, true, l⟩) h (rHas_none h hh)
theorem off_rises {D : List Dev} (h : Rises Dev.name D) : Rises Dev.name (D.map dOff) := List.pairwise_map.2 (h.imp fun hx => hx)
theorem eBirth_inv {s : EN} (h : EInv s) (p : Pay) : EInv (eBirth s p).2 := by
  unfold eBirth
  repeat' split
  all_goals first | exact h | exact ⟨List.Pairwise.nil, fun h => by simp at h⟩
theorem eDeath_inv {s : EN} (h : EInv s) (p : Pay) : EInv (eDeath s p).2 := by
  unfold eDeath
  repeat' split
  all_goals first | exact h | exact ⟨off_rises h.1, fun _ => ⟨rfl, rfl, fun x hx => by obtain ⟨y, _, rfl⟩ := List.mem_map.1 hx; rfl⟩⟩
theorem eData_inv {s : EN} (h : EInv s) (p : Pay) : EInv (eData s p).2 := by
  unfold eData
  repeat' split
  all_goals exact h
theorem eDBirth_inv {s : EN} (h : EInv s) (dn : ByteArray) (p : Pay) : EInv (eDBirth s dn p).2 := by
  unfold eDBirth
  split
  · exact h
  · rename_i ho
    repeat' split
    all_goals first | exact h | exact ⟨eDev_rises h.1 _ _, fun h2 => absurd h2 ho⟩
theorem eDDeath_inv {s : EN} (h : EInv s) (dn : ByteArray) (p : Pay) : EInv (eDDeath s dn p).2 := by
  unfold eDDeath
  split
  · exact h
  · rename_i h1
    obtain ⟨ho, _⟩ := eLive_one (by simpa using h1)
    split
    · exact h
    · rename_i x hx
      exact ⟨set_rises h.1 hx rfl, fun h2 => by rw [show s.online = false from h2] at ho; cases ho⟩
theorem eDData_inv {s : EN} (h : EInv s) (dn : ByteArray) (p : Pay) : EInv (eDData s dn p).2 := by
  unfold eDData
  split
  · exact h
  · rename_i h1
    obtain ⟨ho, _⟩ := eLive_one (by simpa using h1)
    split
    · exact h
    · rename_i x hx
      split
      · exact h
      · exact ⟨set_rises h.1 hx rfl, fun h2 => by rw [show s.online = false from h2] at ho; cases ho⟩
theorem ePend_inv {r : Int × EN} (h : EInv r.2) : EInv (ePend r).2 := by
  unfold ePend
  split <;> exact h
theorem eTake_inv {s : EN} (h : EInv s) (k : Int) (dn : ByteArray) (p : Pay) : EInv (eTake s k dn p).2 := by
  unfold eTake
  repeat' split
  · exact ePend_inv (eBirth_inv h p)
  · exact ePend_inv (eDeath_inv h p)
  · exact ePend_inv (eData_inv h p)
  · exact ePend_inv (eDBirth_inv h dn p)
  · exact ePend_inv (eDDeath_inv h dn p)
  · exact ePend_inv (eDData_inv h dn p)
  · exact h
/-- What a refusal changes. -/
theorem ePend_not {r : Int × EN} {s : EN} (h : r.1 ≠ 1 → r.2 = s) (h1 : (ePend r).1 ≠ 1) : (ePend r).2 = { s with pending := s.pending || decide (3 ≤ (ePend r).1) } := by
  unfold ePend at h1 ⊢
  by_cases h3 : 3 ≤ r.1
  · rw [if_pos h3] at h1 ⊢
    simp only at h1 ⊢
    rw [h h1]
    simp [h3]
  · rw [if_neg h3] at h1 ⊢
    rw [h h1]
    simp [h3]
theorem eTake_not {s : EN} {k : Int} {dn : ByteArray} {p : Pay} (h1 : (eTake s k dn p).1 ≠ 1) : (eTake s k dn p).2 = { s with pending := s.pending || decide (3 ≤ (eTake s k dn p).1) } := by
  unfold eTake at h1 ⊢
  by_cases k1 : k = 1
  · simp only [if_pos k1] at h1 ⊢
    refine ePend_not ?_ h1
    unfold eBirth; repeat' split
    all_goals simp
  simp only [if_neg k1] at h1 ⊢
  by_cases k2 : k = 2
  · simp only [if_pos k2] at h1 ⊢
    refine ePend_not ?_ h1
    unfold eDeath; repeat' split
    all_goals simp
  simp only [if_neg k2] at h1 ⊢
  by_cases k3 : k = 3
  · simp only [if_pos k3] at h1 ⊢
    refine ePend_not ?_ h1
    unfold eData; repeat' split
    all_goals simp
  simp only [if_neg k3] at h1 ⊢
  by_cases k5 : k = 5
  · simp only [if_pos k5] at h1 ⊢
    refine ePend_not ?_ h1
    unfold eDBirth; repeat' split
    all_goals simp
  simp only [if_neg k5] at h1 ⊢
  by_cases k6 : k = 6
  · simp only [if_pos k6] at h1 ⊢
    refine ePend_not ?_ h1
    unfold eDDeath; repeat' split
    all_goals simp
  simp only [if_neg k6] at h1 ⊢
  by_cases k7 : k = 7
  · simp only [if_pos k7] at h1 ⊢
    refine ePend_not ?_ h1
    unfold eDData; repeat' split
    all_goals simp
  simp only [if_neg k7] at h1 ⊢
  simp
/-- A birth that is not taken is refused. -/
theorem bornGo_code : ∀ (M : List Met) (out : List Itm), (bornGo M out).1 = 1 ∨ 3 ≤ (bornGo M out).1
  | [], out => .inl rfl
  | m :: r, out => by
    unfold bornGo
    split
    · simp
    · split
      · simp
      · exact bornGo_code r _
theorem bornL_code (M : List Met) : (bornL M).1 = 1 ∨ 3 ≤ (bornL M).1 := by
  unfold bornL
  split
  · simp
  · exact bornGo_code M []
theorem clashC_code (x : Int) : clashC x = 1 ∨ 3 ≤ clashC x := by unfold clashC; by_cases h0 : x = 0 <;> by_cases h1 : x = 16 <;> simp [h0, h1]
theorem eBirth_code (s : EN) (p : Pay) : (eBirth s p).1 = 1 ∨ 3 ≤ (eBirth s p).1 := by
  unfold eBirth
  repeat' split
  · simp
  · simp
  · exact bornL_code p.M
  · exact clashC_code _
  · simp
theorem ePend_code {r : Int × EN} (h : r.1 = 1 ∨ 3 ≤ r.1) (h1 : (ePend r).1 ≠ 1) : (ePend r).2.pending = true := by
  unfold ePend at h1 ⊢
  by_cases h3 : 3 ≤ r.1
  · rw [if_pos h3]
  · rw [if_neg h3] at h1
    rcases h with h4 | h4
    · exact absurd h4 h1
    · exact absurd h4 h3
theorem bornGo_len : ∀ (M : List Met) (out : List Itm), (bornGo M out).1 = 1 → (bornGo M out).2.length = out.length + M.length
  | [], out => by simp [bornGo]
  | m :: r, out => by
    unfold bornGo
    split
    · simp
    · split
      · simp
      · intro h
        rw [bornGo_len r _ h]
        simp; omega
theorem bornL_len {M : List Met} (h : (bornL M).1 = 1) : (bornL M).2.length = M.length := by
  unfold bornL at h ⊢
  split at h
  · simp at h
  · rename_i h2
    rw [if_neg h2]
    simpa using bornGo_len M [] h
/-- What a birth leaves that is taken. -/
theorem eBirth_yes {s : EN} {p : Pay} (h : (eBirth s p).1 = 1) : p.h = true ∧ p.s < 256 ∧ ∃ al, (eBirth s p).2 = ⟨true, p.bd.1, (p.s + 1) % 256, true, false, (bornL p.M).2, al, []⟩ ∧ (bornL p.M).2.length = p.M.length := by
  unfold eBirth at h ⊢
  split at h
  · simp at h
  · rename_i h1
    split at h
    · simp at h
    · rename_i h2
      split at h
      · rename_i h3; exact absurd h h3
      · rename_i h3
        split at h
        · rename_i h4; exact absurd h h4
        · rename_i h4
          rw [if_neg h1, if_neg h2, if_neg h3, if_neg h4]
          have hs : p.h = true ∧ p.s < 256 ∧ p.seq.1 = p.s := by
            unfold Pay.seq smallN at h2 ⊢
            by_cases hh : p.h = true
            · rw [if_pos hh] at h2 ⊢
              by_cases hs : 256 ≤ p.s
              · rw [if_pos hs] at h2; simp at h2
              · rw [if_neg hs]; exact ⟨hh, by omega, rfl⟩
            · rw [if_neg hh] at h2; simp at h2
          rw [hs.2.2]
          exact ⟨hs.1, hs.2.1, _, rfl, bornL_len (by simpa using h3)⟩
end Go.Proofs.YtjfmbjgniajagaaGreatDoor
