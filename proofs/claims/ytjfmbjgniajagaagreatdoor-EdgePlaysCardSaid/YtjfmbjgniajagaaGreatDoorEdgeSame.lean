/- The document's Same (chapter 33), of two views that show the same. -/
import Derived.Test.YtjfmbjgniajagaaGreatDoorEdgeView
import Derived.Test.YtjfmbjgniajagaaGreatDoorEdgeH
import Derived.Test.YtjfmbjgniajagaaGreatDoorItemsSame
import Derived.Deep.LoopGhost
import Derived.Deep.RegionWith
set_option linter.unusedSimpArgs false
set_option linter.unusedVariables false
namespace Go.Proofs.YtjfmbjgniajagaaGreatDoor
open Go.RowKit

set_option maxRecDepth 100000 in
set_option maxHeartbeats 4000000 in
theorem dsame_any (nm : ByteArray) (on : Bool) (N : Nat) (L : List Itm) (hN : N = L.length) (a1 : Option Addr) (c1 : Nat) (a2 : Option Addr) (c2 : Nat) (w : World) (h1 : ItemsAt w a1 L) (h2 : ItemsAt w a2 L) (hl : N ≤ 32) :
    Calls Tryz.prog 31 #[.agg #[.string nm, .bool on, .slice a1 N c1], .agg #[.string nm, .bool on, .slice a2 N c2]] w fun e w' => e = .returned (.bool true) ∧ Own [] w w' := by
  have hA1 : Own [] w (w.alloc (.cells #[.string nm, .bool on, .slice a1 N c1] 56)) := (Own.refl _ _).alloc _
  have hA2 : Own [] w ((w.alloc (.cells #[.string nm, .bool on, .slice a1 N c1] 56)).alloc (.cells #[.string nm, .bool on, .slice a2 N c2] 56)) := hA1.alloc _
  have r1 : ((w.alloc (.cells #[.string nm, .bool on, .slice a1 N c1] 56)).alloc (.cells #[.string nm, .bool on, .slice a2 N c2] 56)).heap[w.heap.size]? = some (.cells #[.string nm, .bool on, .slice a1 N c1] 56 (0, 0)) :=
    ((Own.refl [] _).alloc _).heap (heap_alloc_new w _) (by simp)
  have r2 : ((w.alloc (.cells #[.string nm, .bool on, .slice a1 N c1] 56)).alloc (.cells #[.string nm, .bool on, .slice a2 N c2] 56)).heap[w.heap.size + 1]? = some (.cells #[.string nm, .bool on, .slice a2 N c2] 56 (0, 0)) := by
    have := heap_alloc_new (w.alloc (.cells #[.string nm, .bool on, .slice a1 N c1] 56)) (.cells #[.string nm, .bool on, .slice a2 N c2] 56)
    simpa using this
  have hB := fun W (ho : Own [] ((w.alloc (.cells #[.string nm, .bool on, .slice a1 N c1] 56)).alloc (.cells #[.string nm, .bool on, .slice a2 N c2] 56)) W) => And.intro (blk3 (ho.heap r1 (by simp))).1 (blk3 (ho.heap r2 (by simp))).1
  obtain ⟨⟨p0, p1, p2⟩, q0, q1, q2⟩ := hB _ (Own.refl _ _)
  have hs : (nm.toList == nm.toList) = true := by simp
  have ho : (on == on) = true := by simp
  have hI1 := fun W (ho : Own [] w W) => h1.nil' ho
  have hI2 := fun W (ho : Own [] w W) => h2.nil' ho
  replace hI1 := Lib.hid hI1
  replace hI2 := Lib.hid hI2
  replace hB := Lib.hid hB
  replace hA2 := Lib.hid hA2
  replace hN := Lib.hid hN
  clear h1 h2 r1 r2 hA1
  go_enter Tryz.func31, Tryz.ntmps31
  go_wp2_with fail
  go_loopg [5] N (fun m s5 wr => ∃ k : Nat, k ≤ N ∧ m = N - k ∧ s5 = .int .i64 k ∧ Aside (Own [] ((w.alloc (.cells #[.string nm, .bool on, .slice a1 N c1] 56)).alloc (.cells #[.string nm, .bool on, .slice a2 N c2] 56)) wr))
  case atStart => exact ⟨0, by omega, by omega, rfl, Own.refl _ _⟩
  case round =>
    obtain ⟨k, hk1, rfl, rfl, hO⟩ := hrel
    obtain ⟨⟨x0, x1, x2⟩, y0, y1, y2⟩ := hB.out _ hO
    by_cases hlt : k < N
    · obtain ⟨b1, o1, rfl, hb1, _, hc1⟩ := (hI1.out _ (hA2.out.trans hO)).item (show k < L.length by have := hN.out; omega)
      obtain ⟨b2, o2, rfl, hb2, _, hc2⟩ := (hI2.out _ (hA2.out.trans hO)).item (show k < L.length by have := hN.out; omega)
      have hq := fun W => run_neq_itm (itAt L k) (itAt L k) W
      rw [itEq_refl] at hq
      generalize itAt L k = x at hc1 hc2 hq
      obtain ⟨nm', hs', al', ty', nu', vk', vn', vs'⟩ := x
      obtain ⟨d0, d1, d2, d3, d4, d5, d6, d7⟩ := At8.all hc1
      obtain ⟨e0, e1, e2, e3, e4, e5, e6, e7⟩ := At8.all hc2
      have q0 : (0 : Int) ≤ k := by omega
      have q1 : (k : Int) < N := by omega
      unfold Itm.val Itm.cells at hq
      replace hO := Lib.hid hO
      clear hc1 hc2 hb1 hb2
      go_wp2_with fail
      go_quiet (fail)
      go_wp2_with fail
      go_roundg (N - (k + 1))
      case measure => omega
      case rel => exact ⟨k + 1, by omega, rfl, by go_num, hO.out.drewN _⟩
    · replace hO := Lib.hid hO
      go_wp2_with fail
      go_ret
      exact ⟨rfl, hA2.out.trans hO.out⟩

/-- A view lies so. -/
structure VAt (w : World) (its : List Itm) (dev : List Dev) (a : Option Addr) (va : Option Addr) (V : List DV) : Prop where
  itsAt : ItemsAt w a its
  few : its.length ≤ 32
  rows : RowsAt vEnc 3 (fun _ => True) w va V
  len : V.length = dev.length
  len4 : dev.length ≤ 4
  devs : ∀ (i : Nat) v x, V[i]? = some v → dev[i]? = some x → v.name = x.name ∧ v.on = x.on ∧ v.n = x.items.length ∧ x.items.length ≤ 32 ∧ ItemsAt w v.a x.items
theorem VAt.nil' {w w' : World} {its : List Itm} {dev : List Dev} {a va : Option Addr} {V : List DV} (h : VAt w its dev a va V) (ho : Own [] w w') : VAt w' its dev a va V :=
  ⟨h.itsAt.nil' ho, h.few, h.rows.nil' ho, h.len, h.len4, fun i v x hv hx => by
    obtain ⟨h1, h2, h3, h4, h5⟩ := h.devs i v x hv hx
    exact ⟨h1, h2, h3, h4, h5.nil' ho⟩⟩
theorem vat_of {B : Nat} {w : World} {s : EN} {a : Option Addr} {cap : Nat} {va : Option Addr} {vn vc : Nat} {V : List DV} (h1 : OutRow B w a cap s.items) (h2 : Sl 56 vEnc 3 B w (.slice va vn vc) V) (h3 : DVs B w V s.dev) (hf : s.items.length ≤ 32) (hd : s.dev.length ≤ 4) (hx : ∀ x ∈ s.dev, x.items.length ≤ 32) :
    VAt w s.items s.dev a va V ∧ vn = s.dev.length := by
  have hlen := h3.1
  refine ⟨⟨h1.at_ (by omega), hf, ?_, hlen, hd, fun i v x hv hx' => ?_⟩, ?_⟩
  · rcases h2.form with ⟨h4, h5⟩ | ⟨gb, cp, h4, _, hR⟩
    · cases h4; rw [h5]; exact RowsAt.empty _ _
    · cases h4; exact RowsAt.of_row hR vEnc_len (by omega) (fun _ _ => trivial)
  · obtain ⟨q1, q2, q3, q4⟩ := h3.2 i v x hv hx'
    have := hx x (List.mem_of_getElem? hx')
    exact ⟨q1, q2, q3, this, q4.at_ (by omega)⟩
  · rcases h2.form with ⟨h4, h5⟩ | ⟨gb, cp, h4, _, hR⟩
    · cases h4; rw [← hlen, h5]; rfl
    · cases h4; exact hlen
theorem dv_at {w : World} {its : List Itm} {dev : List Dev} {a va : Option Addr} {V : List DV} (h : VAt w its dev a va V) {k : Nat} (hk : k < dev.length) {x : Dev} (hx : dev[k]? = some x) :
    ∃ b o a1 c1, va = some ⟨b, o, none⟩ ∧ w.cell? ⟨b, o + k * 3, none⟩ = some (.string x.name) ∧ w.cell? ⟨b, o + k * 3 + 1, none⟩ = some (.bool x.on) ∧ w.cell? ⟨b, o + k * 3 + 2, none⟩ = some (.slice a1 x.items.length c1) ∧ x.items.length ≤ 32 ∧ ItemsAt w a1 x.items := by
  have hv : k < V.length := by rw [h.len]; exact hk
  have hV := List.getElem?_eq_getElem hv
  obtain ⟨q1, q2, q3, q4, q5⟩ := h.devs k _ x hV hx
  obtain ⟨b, o, e, _, hc⟩ := h.rows.2 (by omega)
  have hc' := (hc k _ hV).2
  refine ⟨b, o, (V[k]).a, (V[k]).cap, e, ?_, ?_, ?_, q4, q5⟩
  · have := hc' 0 _ rfl
    rw [q1] at this; simpa using this
  · have := hc' 1 _ rfl
    rw [q2] at this; exact this
  · have := hc' 2 _ rfl
    rw [q3] at this; exact this
set_option maxRecDepth 100000 in
set_option maxHeartbeats 8000000 in
theorem esame_any (g nm : ByteArray) (on pe : Bool) (bd nx : Int) (its : List Itm) (dev : List Dev) (il dl : Nat) (hil : il = its.length) (hdl : dl = dev.length) (a1 va1 a2 va2 : Option Addr) (c1 vc1 c2 vc2 : Nat) (V1 V2 : List DV) (w : World) (h1 : VAt w its dev a1 va1 V1) (h2 : VAt w its dev a2 va2 V2) :
    Calls Tryz.prog 16 #[.agg #[.string g, .string nm, .bool on, .int .i64 bd, .int .i64 nx, .bool pe, .slice a1 il c1, .slice va1 dl vc1], .agg #[.string g, .string nm, .bool on, .int .i64 bd, .int .i64 nx, .bool pe, .slice a2 il c2, .slice va2 dl vc2]] w fun e w' => e = .returned (.bool true) ∧ Own [] w w' := by
  have hA1 : Own [] w (w.alloc (.cells #[.string g, .string nm, .bool on, .int .i64 bd, .int .i64 nx, .bool pe, .slice a1 il c1, .slice va1 dl vc1] 45)) := (Own.refl _ _).alloc _
  have hA2 : Own [] w ((w.alloc (.cells #[.string g, .string nm, .bool on, .int .i64 bd, .int .i64 nx, .bool pe, .slice a1 il c1, .slice va1 dl vc1] 45)).alloc (.cells #[.string g, .string nm, .bool on, .int .i64 bd, .int .i64 nx, .bool pe, .slice a2 il c2, .slice va2 dl vc2] 45)) := hA1.alloc _
  have r1 : ((w.alloc (.cells #[.string g, .string nm, .bool on, .int .i64 bd, .int .i64 nx, .bool pe, .slice a1 il c1, .slice va1 dl vc1] 45)).alloc (.cells #[.string g, .string nm, .bool on, .int .i64 bd, .int .i64 nx, .bool pe, .slice a2 il c2, .slice va2 dl vc2] 45)).heap[w.heap.size]? = some (.cells #[.string g, .string nm, .bool on, .int .i64 bd, .int .i64 nx, .bool pe, .slice a1 il c1, .slice va1 dl vc1] 45 (0, 0)) :=
    ((Own.refl [] _).alloc _).heap (heap_alloc_new w _) (by simp)
  have r2 : ((w.alloc (.cells #[.string g, .string nm, .bool on, .int .i64 bd, .int .i64 nx, .bool pe, .slice a1 il c1, .slice va1 dl vc1] 45)).alloc (.cells #[.string g, .string nm, .bool on, .int .i64 bd, .int .i64 nx, .bool pe, .slice a2 il c2, .slice va2 dl vc2] 45)).heap[w.heap.size + 1]? = some (.cells #[.string g, .string nm, .bool on, .int .i64 bd, .int .i64 nx, .bool pe, .slice a2 il c2, .slice va2 dl vc2] 45 (0, 0)) := by
    have := heap_alloc_new (w.alloc (.cells #[.string g, .string nm, .bool on, .int .i64 bd, .int .i64 nx, .bool pe, .slice a1 il c1, .slice va1 dl vc1] 45)) (.cells #[.string g, .string nm, .bool on, .int .i64 bd, .int .i64 nx, .bool pe, .slice a2 il c2, .slice va2 dl vc2] 45)
    simpa using this
  generalize hW0 : (w.alloc (.cells #[.string g, .string nm, .bool on, .int .i64 bd, .int .i64 nx, .bool pe, .slice a1 il c1, .slice va1 dl vc1] 45)).alloc (.cells #[.string g, .string nm, .bool on, .int .i64 bd, .int .i64 nx, .bool pe, .slice a2 il c2, .slice va2 dl vc2] 45) = W0 at *
  have hB := fun W (ho : Own [] W0 W) => And.intro (blk8 (ho.heap r1 (by simp))).1 (blk8 (ho.heap r2 (by simp))).1
  obtain ⟨⟨p0, p1, p2, p3, p4, p5, p6, p7⟩, q0, q1, q2, q3, q4, q5, q6, q7⟩ := hB _ (Own.refl _ _)
  have hs0 : (g.toList == g.toList) = true := by simp
  have hs : (nm.toList == nm.toList) = true := by simp
  have ho : (on == on) = true := by simp
  have hp : (pe == pe) = true := by simp
  have hI1 := fun W (ho : Own [] w W) => h1.nil' ho
  have hI2 := fun W (ho : Own [] w W) => h2.nil' ho
  have hl4 : dl ≤ 4 := by rw [hdl]; exact h1.len4
  have cI := fun W (ho : Own [] w W) => rsame_any a1 its c1 a2 its c2 W (h1.nil' ho).itsAt (h2.nil' ho).itsAt
  rw [itSame_refl, ← hil] at cI
  have cI0 := cI _ hA2
  rw [← hW0] at p0 p1 p2 p3 p4 p5 p6 p7 q0 q1 q2 q3 q4 q5 q6 q7 cI0
  have cD := fun W (x : Dev) a c a' c' (h1 : ItemsAt W a x.items) (h2 : ItemsAt W a' x.items) (hl : x.items.length ≤ 32) => dsame_any x.name x.on x.items.length x.items rfl a c a' c' W h1 h2 hl
  replace hW0 := Lib.hid hW0
  replace cD := Lib.hid cD
  replace hI1 := Lib.hid hI1
  replace hI2 := Lib.hid hI2
  replace hB := Lib.hid hB
  replace hA2 := Lib.hid hA2
  replace hil := Lib.hid hil
  replace hdl := Lib.hid hdl
  replace cI0 := Lib.hid cI0
  clear h1 h2 r1 r2 hA1 cI
  go_enter Tryz.func16, Tryz.ntmps16
  go_wp2_with (go_at_call 30; (with_reducible refine cI0.out.mono ?_); rintro e w3 ⟨rfl, hO3⟩; rw [hW0.out] at hO3; obtain ⟨⟨x0, x1, x2, x3, x4, x5, x6, x7⟩, y0, y1, y2, y3, y4, y5, y6, y7⟩ := hB.out _ hO3; replace hO3 := Lib.hid hO3)
  go_loopg [5] dl (fun m s5 wr => ∃ k : Nat, k ≤ dl ∧ m = dl - k ∧ s5 = .int .i64 k ∧ Aside (Own [] W0 wr))
  case atStart => exact ⟨0, by omega, by omega, rfl, hO3.out⟩
  case round =>
    obtain ⟨k, hk1, rfl, rfl, hO⟩ := hrel
    clear p0 p1 p2 p3 p4 p5 p6 p7 q0 q1 q2 q3 q4 q5 q6 q7 x0 x1 x2 x3 x4 x5 x6 x7 y0 y1 y2 y3 y4 y5 y6 y7
    obtain ⟨⟨x0, x1, x2, x3, x4, x5, x6, x7⟩, y0, y1, y2, y3, y4, y5, y6, y7⟩ := hB.out _ hO
    by_cases hlt : k < dl
    · have hkd : k < dev.length := by rw [← hdl.out]; exact hlt
      obtain ⟨b1, o1, d1, e1, rfl, f0, f1, f2, hl, hi1⟩ := dv_at (hI1.out _ (hA2.out.trans hO)) hkd (List.getElem?_eq_getElem hkd)
      obtain ⟨b2, o2, d2, e2, rfl, g0, g1, g2, _, hi2⟩ := dv_at (hI2.out _ (hA2.out.trans hO)) hkd (List.getElem?_eq_getElem hkd)
      have cD1 := cD.out wr.drew dev[k] d1 e1 d2 e2 (hi1.nil' (Own.refl _ _).drew) (hi2.nil' (Own.refl _ _).drew) hl
      generalize dev[k] = x at *
      replace cD1 := Lib.hid cD1
      have q0 : (0 : Int) ≤ k := by omega
      have q1 : (k : Int) < dl := by omega
      replace hO := Lib.hid hO
      clear hi1 hi2
      go_wp2_with fail
      go_region_with ((go_at_call 31; (with_reducible refine cD1.out.mono ?_); rintro e w5 ⟨rfl, hO5⟩; replace hO5 := Lib.hid (hO.out.drew.trans hO5)))
      all_goals
        go_wp2_with fail
        go_roundg (dl - (k + 1))
        case measure => omega
        case rel => exact ⟨k + 1, by omega, rfl, by go_num, hO5.out⟩
    · replace hO := Lib.hid hO
      go_wp2_with fail
      go_ret
      exact ⟨rfl, hA2.out.trans hO.out⟩
end Go.Proofs.YtjfmbjgniajagaaGreatDoor
