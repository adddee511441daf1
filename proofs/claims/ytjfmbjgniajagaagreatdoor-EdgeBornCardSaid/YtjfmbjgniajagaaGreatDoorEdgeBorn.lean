/- EdgeBorn: behind a birth that is taken a node is online, not pending, without devices, and wants the number behind the birth's; a death of another life than its own changes nothing; its own ends it. -/
import Derived.Test.YtjfmbjgniajagaaGreatDoorEdgeOwn
import Derived.Test.YtjfmbjgniajagaaGreatDoorEdgeZero
import Derived.Deep.LoopGhost
import Derived.Deep.RegionHeld3
set_option linter.unusedSimpArgs false
set_option linter.unusedVariables false
namespace Go.Proofs.YtjfmbjgniajagaaGreatDoor
open Go.RowKit

def bdMetL (bd : Int) : Met := ⟨⟨#[98, 100, 83, 101, 113]⟩, false, 0, 0, 0, false, false, false, (none, 0, 0), (none, 0, 0), 2, bd, ⟨#[]⟩, (none, 0, 0), (none, 0, 0)⟩
def deathP (bd : Int) (a : Option Addr) : Pay := ⟨0, false, 0, ⟨#[]⟩, ⟨#[]⟩, a, [bdMetL bd], 1⟩
theorem death_bd {bd : Int} (h : bd < 256) (a : Option Addr) : (deathP bd a).bd = (bd, true) := by
  show (match metFind [bdMetL bd] bdName with | none => (0, false) | some m => if m.null = true then (0, false) else if m.vk = 1 ∨ m.vk = 2 then smallN m.vn else (0, false)) = _
  have : metFind [bdMetL bd] bdName = some (bdMetL bd) := rfl
  rw [this]
  unfold bdMetL smallN
  simp
  omega
theorem death_other {s : EN} {bd : Int} (h : bd < 256) (a : Option Addr) (dn : ByteArray) (hb : bd ≠ s.bd) : eTake s 2 dn (deathP bd a) = (2, s) := by
  unfold eTake
  rw [if_neg (by decide), if_pos rfl]
  have : eDeath s (deathP bd a) = (2, s) := by
    unfold eDeath
    rw [death_bd h, if_neg (by simp), if_pos (.inr hb)]
  rw [this]
  rfl
theorem death_off {s : EN} {bd : Int} (h : bd < 256) (a : Option Addr) (dn : ByteArray) (ho : s.online = false) : eTake s 2 dn (deathP bd a) = (2, s) := by
  unfold eTake
  rw [if_neg (by decide), if_pos rfl]
  have : eDeath s (deathP bd a) = (2, s) := by
    unfold eDeath
    rw [death_bd h, if_neg (by simp), if_pos (.inl ho)]
  rw [this]
  rfl
theorem death_own {s : EN} {bd : Int} (h : bd < 256) (a : Option Addr) (dn : ByteArray) (ho : s.online = true) (hb : bd = s.bd) : ∃ s', eTake s 2 dn (deathP bd a) = (1, s') ∧ s'.online = false ∧ s'.al = [] := by
  unfold eTake
  rw [if_neg (by decide), if_pos rfl]
  have : eDeath s (deathP bd a) = (1, { s with online := false, want := 0, begun := false, al := [], dev := s.dev.map dOff }) := by
    unfold eDeath
    rw [death_bd h, if_neg (by simp), if_neg (by simp [ho, hb])]
  rw [this]
  exact ⟨_, rfl, rfl, rfl⟩
theorem ei_pending {w0 wr : World} {n : Nat} {g nm : ByteArray} {s : EN} (h : EI w0 wr n g nm s) (hp : s.pending = true) : Calls Tryz.prog 11 #[.pointer (some ⟨n, 0, none⟩)] wr fun e w' => e = .returned (.bool true) ∧ wr = w' := hp ▸ h.1.pending
theorem ei_on {w0 wr : World} {n : Nat} {g nm : ByteArray} {s : EN} (h : EI w0 wr n g nm s) (hp : s.online = false) : Calls Tryz.prog 17 #[.pointer (some ⟨n, 0, none⟩)] wr fun e w' => e = .returned (.bool false) ∧ wr = w' := hp ▸ h.1.on
theorem ei_al0 {w0 wr : World} {n : Nat} {g nm : ByteArray} {s : EN} (h : EI w0 wr n g nm s) (hp : s.al = []) : Calls Tryz.prog 15 #[.pointer (some ⟨n, 0, none⟩)] wr fun e w' => e = .returned (.int .i64 0) ∧ wr = w' :=
  h.1.al.mono (by rintro e w' ⟨rfl, rfl⟩; exact ⟨by rw [hp]; rfl, rfl⟩)
theorem view_born {w0 wr : World} {n : Nat} {g nm : ByteArray} {s : EN} (h : EI w0 wr n g nm s) (h1 : s.online = true) (h2 : s.begun = true) (h3 : s.pending = false) (h4 : s.dev = []) {N : Nat} (h5 : s.items.length = N) :
    Calls Tryz.prog 12 #[.pointer (some ⟨n, 0, none⟩)] wr fun e w' => ∃ a cap va vc V, e = .returned (.agg #[.string g, .string nm, .bool true, .int .i64 s.bd, .int .i64 s.want, .bool false, .slice a N cap, .slice va 0 vc]) ∧ ViewB wr.heap.size w' s.items s.dev a cap va vc V ∧ Own [] wr w' := by
  refine h.viewB.mono ?_
  rintro e w' ⟨a, cap, va, vc, V, rfl, k1, k2⟩
  refine ⟨a, cap, va, vc, V, ?_, k1, k2⟩
  have e1 : bdV s = s.bd := by unfold bdV; rw [if_pos h1]
  have e2 : nextV s = s.want := by unfold nextV; rw [if_pos h2]
  have e3 : s.dev.length = 0 := by rw [h4]; rfl
  rw [e1, e2, e3, h1, h3, h5]
theorem death_at {W : World} {b : Nat} {bd : Int} (h0 : 0 ≤ bd) (h1 : bd < 256) (h : W.heap[b]? = some (.cells (bdMetL bd).cells.toArray 36 (0, 0))) : PayAt W (deathP bd (some ⟨b, 0, none⟩)) :=
  ⟨by simp [deathP], RowsAt.of_block Met.cells_len h (by simp [rowOf, deathP]) (by simp [deathP]) (by simp [deathP, bdMetL, Met.wf]; omega)⟩
theorem EX.death {w0 wr : World} {n : Nat} {g nm : ByteArray} {s : EN} {B C : Nat} (bd : Int) (a : Option Addr) (h : EX w0 wr n g nm s B C) (hP : PayAt wr (deathP bd a)) (hE : Errs w0) :
    Calls Tryz.prog 10 #[.pointer (some ⟨n, 0, none⟩), .int .i64 2, .string ⟨#[]⟩, .agg #[.int .u64 0, .bool false, .int .u64 0, .string ⟨#[]⟩, .string ⟨#[]⟩, .slice a 1 1]] wr fun e w' => e = .returned (.int .i64 (eTake s 2 ⟨#[]⟩ (deathP bd a)).1) ∧ EX w0 w' n g nm (eTake s 2 ⟨#[]⟩ (deathP bd a)).2 B C ∧ Gap B C wr w' :=
  EX.take 2 ⟨#[]⟩ (deathP bd a) h hP hE
set_option maxRecDepth 100000 in
set_option maxHeartbeats 16000000 in
theorem edgeBorn_walk (a : Option Addr) (len cap : Nat) (ms : Nat → EAct) (p : Pay) (bd : Int) (w : World) (hA : EActs w a len ms) (hy : PayAt w p) (hbw : (Lit.int .u8 bd).wf = true) (hE : Errs w) :
    Calls Tryz.prog 6 #[.slice a len cap, .agg #[.int .u64 p.t, .bool p.h, .int .u64 p.s, .string p.u, .string p.b, .slice p.a p.M.length p.c], .int .u8 bd] w fun e w' => e = .returned (.bool true) ∧ Below w.heap.size w w' := by
  obtain ⟨hb0, hb1⟩ := bounds_u8 hbw
  have hlen : len ≤ 9223372036854775807 := by have := hA.1; unfold maxLen at this; omega
  have hAt := Lib.hid fun i (hi : i < len) => eacts_all hA hi
  have AW := Lib.hid (fun W => awake_any W)
  have SM := Lib.hid fun p W => small_any p W
  have hOB0 : Own [] w (w.alloc (.cells #[.int .u64 p.t, .bool p.h, .int .u64 p.s, .string p.u, .string p.b, .slice p.a p.M.length p.c] 39)) := (Own.refl _ _).alloc _
  have hr0 := heap_alloc_new w (.cells #[.int .u64 p.t, .bool p.h, .int .u64 p.s, .string p.u, .string p.b, .slice p.a p.M.length p.c] 39)
  obtain ⟨wB, hwB⟩ : ∃ wB, w.alloc (.cells #[.int .u64 p.t, .bool p.h, .int .u64 p.s, .string p.u, .string p.b, .slice p.a p.M.length p.c] 39) = wB := ⟨_, rfl⟩
  rw [hwB] at hOB0 hr0
  have hBx := Lib.hid fun W (ho : Own [] wB W) => pbox_cells w p (S := []) (by simp) W (by unfold pbox; rw [hwB]; exact ho)
  have hEB := hE.nil hOB0
  have TK := Lib.hid fun n wr s (x : EAct) (h : EI wB wr n ⟨#[103]⟩ ⟨#[110]⟩ s) (hP : PayAt wr x.p) => EI.take x.k x.dev x.p h hP hEB
  have TB := Lib.hid fun n wr s (h : EI wB wr n ⟨#[103]⟩ ⟨#[110]⟩ s) (hP : PayAt wr p) => EI.take 1 ⟨#[]⟩ p h hP hEB
  have TX := Lib.hid fun n wr s B C a (h : EX wB wr n ⟨#[103]⟩ ⟨#[110]⟩ s B C) (hP : PayAt wr (deathP bd a)) => EX.death bd a h hP hEB
  have NW := Lib.hid (EI.new ⟨#[103]⟩ ⟨#[110]⟩ wB (by kernel_rfl) (by kernel_rfl))
  have hOB := Lib.hid hOB0
  have hps : 0 ≤ p.s := hy.1
  replace hy := Lib.hid hy
  replace hwB := Lib.hid hwB
  clear hA hE hr0 hEB hOB0 hbw
  go_enter Tryz.func6, Tryz.ntmps6
  go_wp2_with (go_at_call 9; rw [hwB.out]; (with_reducible refine NW.out.mono ?_); rintro e w1 ⟨n, rfl, hN⟩; replace hN := Lib.hid hN)
  go_loopg [9] len (fun m sI wr => ∃ (i : Nat) (s : EN), i ≤ len ∧ m = len - i ∧ sI = .int .i64 i ∧ Aside (EI wB wr n ⟨#[103]⟩ ⟨#[110]⟩ s))
  case atStart => exact ⟨0, _, by omega, rfl, rfl, hN.out⟩
  case round =>
    obtain ⟨i, s, hi, rfl, rfl, hH⟩ := hrel
    by_cases hlt : i < len ∧ i < 20
    · obtain ⟨hlt, h40⟩ := hlt
      obtain ⟨b, o, rfl, hAl⟩ := hAt.out i hlt
      obtain ⟨hP, hca⟩ := hAl _ (hOB.out.trans hH.1.own)
      have cT := fun W (ho : Own [] wr W) => TK.out n W s (ms i) (hH.nil' ho) (hP.nil' ho)
      have hcW := Lib.hid fun W (ho : Own [] w W) => (hAl W ho).2
      have hOw := Lib.hid (hOB.out.trans hH.1.own)
      obtain ⟨c0, c1, c2, c3, c4, c5, c6, c7⟩ := hca
      clear hAl
      generalize ms i = x at *
      have cS := SM.out x.p
      by_cases hsm : x.p.M.length ≤ 40
      · have hd : decide (x.p.M.length ≤ 40) = true := by simpa using hsm
        rw [hd] at cS
        replace cS := Lib.hid fun W => cS W
        replace cT := Lib.hid cT
        replace hH := Lib.hid hH
        generalize eTake s x.k x.dev x.p = r at cT
        obtain ⟨r1, s'⟩ := r
        clear hP hsm
        go_wp2_with (go_at_call 14; (with_reducible refine (cS.out _).mono ?_); rintro e w2 ⟨rfl, hO2⟩; have hcW2 := hcW.out _ (hOw.out.trans hO2); obtain ⟨d0, d1, d2, d3, d4, d5, d6, d7⟩ := hcW2; have cT2 := Lib.hid (cT.out _ hO2.drew); replace hO2 := Lib.hid hO2)
        go_region_held3 (fun W => W.cell? ⟨b, o + i * 8, none⟩ = some (.int .i64 x.k) ∧ W.cell? ⟨b, o + i * 8 + 1, none⟩ = some (.string x.dev) ∧ W.cell? ⟨b, o + i * 8 + 2, none⟩ = some (.int .u64 x.p.t) ∧ W.cell? ⟨b, o + i * 8 + 3, none⟩ = some (.bool x.p.h) ∧ W.cell? ⟨b, o + i * 8 + 4, none⟩ = some (.int .u64 x.p.s) ∧ W.cell? ⟨b, o + i * 8 + 5, none⟩ = some (.string x.p.u) ∧ W.cell? ⟨b, o + i * 8 + 6, none⟩ = some (.string x.p.b) ∧ W.cell? ⟨b, o + i * 8 + 7, none⟩ = some (.slice x.p.a x.p.M.length x.p.c))
          (first | go_keep | exact kA)
          ((go_at_call 10; (with_reducible refine cT2.out.mono ?_); rintro e w3 ⟨rfl, hH3⟩; have kA := hcW.out _ (hOB.out.trans hH3.1.own); replace hH3 := Lib.hid hH3))
        all_goals
          clear kA c0 c1 c2 c3 c4 c5 c6 c7 d0 d1 d2 d3 d4 d5 d6 d7
          go_wp2_with fail
          go_roundg (len - (i + 1))
          case rel => exact ⟨i + 1, s', by omega, rfl, by go_num, hH3.out⟩
          case measure => omega
      · have hd : decide (x.p.M.length ≤ 40) = false := by simpa using hsm
        rw [hd] at cS
        replace cS := Lib.hid fun W => cS W
        replace hH := Lib.hid hH
        clear cT hP hsm
        go_wp2_with (go_at_call 14; (with_reducible refine (cS.out _).mono ?_); rintro e w2 ⟨rfl, hO2⟩; replace hO2 := Lib.hid (hH.out.nil' hO2))
        go_roundg (len - (i + 1))
        case rel => exact ⟨i + 1, s, by omega, rfl, by go_num, hO2.out⟩
        case measure => omega
    · have hex : (¬ i < len) ∨ (i < len ∧ ¬ ((i : Int) < 20)) := by
        by_cases h1 : i < len
        · exact .inr ⟨h1, fun h2 => hlt ⟨h1, by omega⟩⟩
        · exact .inl h1
      clear hlt
      obtain ⟨u0, u1, u2, u3, u4, u5⟩ := hBx.out _ hH.1.own
      have cB := TB.out n wr s hH (hy.out.nil' (hOB.out.trans hH.1.own))
      have hyes := eBirth_yes (s := s) (p := p)
      have hcode := fun h => ePend_code (eBirth_code s p) h
      have he : eTake s 1 ⟨#[]⟩ p = ePend (eBirth s p) := by unfold eTake; rw [if_pos rfl]
      rw [he] at cB
      have hOr := hH.1.own
      replace hOr := Lib.hid hOr
      clear he
      by_cases hr1 : (ePend (eBirth s p)).1 = 1
      · have hb1' : (eBirth s p).1 = 1 := by
          unfold ePend at hr1
          split at hr1
          · rename_i h3; simp only at hr1; omega
          · exact hr1
        obtain ⟨q1, q2, al, q3, q4⟩ := hyes hb1'
        have he2 : ePend (eBirth s p) = (1, ⟨true, p.bd.1, (p.s + 1) % 256, true, false, (bornL p.M).2, al, []⟩) := by
          unfold ePend
          rw [if_neg (by rw [hb1']; decide), ← q3, ← hb1']
        rw [he2] at cB
        simp only at cB
        obtain ⟨s2, hs2⟩ : ∃ s2 : EN, s2 = ⟨true, p.bd.1, (p.s + 1) % 256, true, false, (bornL p.M).2, al, []⟩ := ⟨_, rfl⟩
        rw [← hs2] at cB
        have z1 : s2.online = true := by rw [hs2]
        have z2 : s2.begun = true := by rw [hs2]
        have z3 : s2.pending = false := by rw [hs2]
        have z4 : s2.dev = [] := by rw [hs2]
        have z5 : s2.items.length = p.M.length := by rw [hs2]; exact q4
        have z6 : s2.want = (p.s + 1) % 256 := by rw [hs2]
        have hvw := Lib.hid fun W (h : EI wB W n ⟨#[103]⟩ ⟨#[110]⟩ s2) => view_born h z1 z2 z3 z4 z5
        rw [z6] at hvw
        have hsame := Lib.hid fun (a4 va4 a8 va8 : Option Addr) (c1 vc1 c2 vc2 : Nat) (V1 V2 : List DV) W (h1 : VAt W s2.items s2.dev a4 va4 V1) (h2 : VAt W s2.items s2.dev a8 va8 V2) => esame_any ⟨#[103]⟩ ⟨#[110]⟩ true false s2.bd ((p.s + 1) % 256) s2.items s2.dev p.M.length 0 z5.symm (by rw [z4]; rfl) a4 va4 a8 va8 c1 vc1 c2 vc2 V1 V2 W h1 h2
        have hwr : IntKind.i64.wrap p.s = p.s := IntWalk.i64_in _ (by omega)
        have hwr2 : IntKind.i64.wrap (p.s + 1) = p.s + 1 := IntWalk.i64_in _ (by omega)
        have htm : (p.s + 1).tmod 256 = (p.s + 1) % 256 := Int.tmod_eq_emod_of_nonneg (by omega)
        have hod := Lib.hid fun a => death_other (s := s2) (bd := bd) (by omega) a ⟨#[]⟩
        have how := Lib.hid fun a => death_own (s := s2) (bd := bd) (by omega) a ⟨#[]⟩ z1
        have hoff := Lib.hid fun (s' : EN) a => death_off (s := s') (bd := bd) (by omega) a ⟨#[]⟩
        have hDA := Lib.hid fun W b => death_at (W := W) (b := b) (bd := bd) hb0 (by omega)
        replace cB := Lib.hid cB
        clear q1 hyes hcode hr1 hb1' q3 q4 he2 z1 z2 z3 z4 z5 z6 hs2
        generalize hsb : s2.bd = sb at *
        replace hsb := Lib.hid hsb
        generalize hnx : (p.s + 1) % 256 = nx at *
        replace hnx := Lib.hid hnx
        by_cases hbb : bd = sb
        · subst hbb
          rcases hex with h2 | ⟨h2, h3⟩
          all_goals
            go_wp2_with (first
              | (go_at_call 10; (with_reducible refine cB.out.mono ?_); rintro e w3 ⟨rfl, hH3⟩; have cV3 := Lib.hid (hvw.out _ hH3); replace hH3 := Lib.hid hH3)
              | (go_at_call 12; (with_reducible refine cV3.out.mono ?_); rintro e w4 ⟨a4, cap4, va4, vc4, V4, rfl, hV4, hO4⟩; obtain ⟨v0, v1, v2, v3, v4, v5⟩ := hBx.out _ (hH3.out.1.own.trans (hO4.alloc (.cells #[.string ⟨#[103]⟩, .string ⟨#[110]⟩, .bool true, .int .i64 bd, .int .i64 nx, .bool false, .slice a4 p.M.length cap4, .slice va4 0 vc4] 45))); have hrow4 := heap_alloc_new w4 (.cells #[.string ⟨#[103]⟩, .string ⟨#[110]⟩, .bool true, .int .i64 bd, .int .i64 nx, .bool false, .slice a4 p.M.length cap4, .slice va4 0 vc4] 45); replace hV4 := Lib.hid hV4; replace hO4 := Lib.hid hO4; replace hrow4 := Lib.hid hrow4)
              | (go_at_call 10; have hX5 := hH3.out.gap (((hO4.out.alloc (.cells #[.string ⟨#[103]⟩, .string ⟨#[110]⟩, .bool true, .int .i64 bd, .int .i64 nx, .bool false, .slice a4 p.M.length cap4, .slice va4 0 vc4] 45)).alloc (.cells (bdMetL bd).cells.toArray 36)).alloc (.cells #[.int .u64 0, .bool false, .int .u64 0, .string ⟨#[]⟩, .string ⟨#[]⟩, .slice (some ⟨w4.heap.size + 1, 0, none⟩) 1 1] 39)); have hrm := (((Own.refl [] (w4.alloc (.cells #[.string ⟨#[103]⟩, .string ⟨#[110]⟩, .bool true, .int .i64 bd, .int .i64 nx, .bool false, .slice a4 p.M.length cap4, .slice va4 0 vc4] 45))).alloc (.cells (bdMetL bd).cells.toArray 36)).alloc (.cells #[.int .u64 0, .bool false, .int .u64 0, .string ⟨#[]⟩, .string ⟨#[]⟩, .slice (some ⟨w4.heap.size + 1, 0, none⟩) 1 1] 39)); have hmet := ((Own.refl [] _).alloc (.cells #[.int .u64 0, .bool false, .int .u64 0, .string ⟨#[]⟩, .string ⟨#[]⟩, .slice (some ⟨w4.heap.size + 1, 0, none⟩) 1 1] 39)).heap (heap_alloc_new (w4.alloc (.cells #[.string ⟨#[103]⟩, .string ⟨#[110]⟩, .bool true, .int .i64 bd, .int .i64 nx, .bool false, .slice a4 p.M.length cap4, .slice va4 0 vc4] 45)) (.cells (bdMetL bd).cells.toArray 36)) (by simp); rw [show (w4.alloc (.cells #[.string ⟨#[103]⟩, .string ⟨#[110]⟩, .bool true, .int .i64 bd, .int .i64 nx, .bool false, .slice a4 p.M.length cap4, .slice va4 0 vc4] 45)).heap.size = w4.heap.size + 1 by simp] at hmet; have hrw := hrm.heap hrow4.out (by simp); have hq := heap_alloc_new ((w4.alloc (.cells #[.string ⟨#[103]⟩, .string ⟨#[110]⟩, .bool true, .int .i64 bd, .int .i64 nx, .bool false, .slice a4 p.M.length cap4, .slice va4 0 vc4] 45)).alloc (.cells (bdMetL bd).cells.toArray 36)) (.cells #[.int .u64 0, .bool false, .int .u64 0, .string ⟨#[]⟩, .string ⟨#[]⟩, .slice (some ⟨w4.heap.size + 1, 0, none⟩) 1 1] 39); rw [show ((w4.alloc (.cells #[.string ⟨#[103]⟩, .string ⟨#[110]⟩, .bool true, .int .i64 bd, .int .i64 nx, .bool false, .slice a4 p.M.length cap4, .slice va4 0 vc4] 45)).alloc (.cells (bdMetL bd).cells.toArray 36)).heap.size = w4.heap.size + 1 + 1 by simp] at hq; have cD := TX.out n _ s2 _ _ (some ⟨w4.heap.size + 1, 0, none⟩) hX5 (hDA.out _ _ hmet); simp only [bdMetL, Met.cells] at cD hmet; obtain ⟨s3, he3, hn3, ha3⟩ := how.out (some ⟨w4.heap.size + 1, 0, none⟩) (by simp); rw [he3] at cD; simp only at cD; replace cD := Lib.hid cD; (with_reducible refine cD.out.mono ?_); rintro e w6 ⟨rfl, hX6, hG6⟩; have hr6 := hG6.heap hrw hO4.out.size (by simp <;> omega); obtain ⟨⟨x0, x1, x2, x3, x4, x5, x6, x7⟩, _⟩ := blk8 hr6; have hq6 := hG6.heap hq (by have := hO4.out.size; omega) (by simp <;> omega); have hm6 := hG6.heap hmet (by have := hO4.out.size; omega) (by simp <;> omega); have y0 := cell_of_row _ _ 0 _ _ _ hq6; have y1 := cell_of_row _ _ 1 _ _ _ hq6; have y2 := cell_of_row _ _ 2 _ _ _ hq6; have y3 := cell_of_row _ _ 3 _ _ _ hq6; have y4 := cell_of_row _ _ 4 _ _ _ hq6; have y5 := cell_of_row _ _ 5 _ _ _ hq6; have cOn := Lib.hid (ei_on hX6.ei hn3); have cAl := Lib.hid (ei_al0 hX6.ei ha3); have cD6 := TX.out n _ s3 _ _ (some ⟨w4.heap.size + 1, 0, none⟩) hX6 (hDA.out _ _ (by simpa [bdMetL, Met.cells] using hm6)); rw [hoff.out _ _ hn3] at cD6; simp only at cD6; replace cD6 := Lib.hid cD6; clear hX6 hG6 hr6 hX5 hrm hmet hrw hq hq6 hm6 hn3 ha3 he3)
              | (go_at_call 17; (with_reducible refine cOn.out.mono ?_); rintro e w7 ⟨rfl, rfl⟩)
              | (go_at_call 15; (with_reducible refine cAl.out.mono ?_); rintro e w7 ⟨rfl, rfl⟩)
              | (go_at_call 10; (with_reducible refine cD6.out.mono ?_); rintro e w8 ⟨rfl, hX8, _⟩; replace hX8 := Lib.hid hX8)
              | (go_at_call 13; (with_reducible refine (AW.out _).mono ?_); rintro e w9 ⟨rfl, hO9⟩; replace hO9 := Lib.hid (hOB.out.trans (hX8.out.ei.1.own.trans hO9))))
            go_ret
            exact ⟨rfl, hO9.out.below (Nat.le_refl _) (by simp)⟩
        · rcases hex with h2 | ⟨h2, h3⟩
          all_goals
            go_wp2_with (first
              | (go_at_call 10; (with_reducible refine cB.out.mono ?_); rintro e w3 ⟨rfl, hH3⟩; have cV3 := Lib.hid (hvw.out _ hH3); replace hH3 := Lib.hid hH3)
              | (go_at_call 12; (with_reducible refine cV3.out.mono ?_); rintro e w4 ⟨a4, cap4, va4, vc4, V4, rfl, hV4, hO4⟩; obtain ⟨v0, v1, v2, v3, v4, v5⟩ := hBx.out _ (hH3.out.1.own.trans (hO4.alloc (.cells #[.string ⟨#[103]⟩, .string ⟨#[110]⟩, .bool true, .int .i64 sb, .int .i64 nx, .bool false, .slice a4 p.M.length cap4, .slice va4 0 vc4] 45))); have hrow4 := heap_alloc_new w4 (.cells #[.string ⟨#[103]⟩, .string ⟨#[110]⟩, .bool true, .int .i64 sb, .int .i64 nx, .bool false, .slice a4 p.M.length cap4, .slice va4 0 vc4] 45); replace hV4 := Lib.hid hV4; replace hO4 := Lib.hid hO4; replace hrow4 := Lib.hid hrow4)
              | (go_at_call 10; have hX5 := hH3.out.gap (((hO4.out.alloc (.cells #[.string ⟨#[103]⟩, .string ⟨#[110]⟩, .bool true, .int .i64 sb, .int .i64 nx, .bool false, .slice a4 p.M.length cap4, .slice va4 0 vc4] 45)).alloc (.cells (bdMetL bd).cells.toArray 36)).alloc (.cells #[.int .u64 0, .bool false, .int .u64 0, .string ⟨#[]⟩, .string ⟨#[]⟩, .slice (some ⟨w4.heap.size + 1, 0, none⟩) 1 1] 39)); have hrm := (((Own.refl [] (w4.alloc (.cells #[.string ⟨#[103]⟩, .string ⟨#[110]⟩, .bool true, .int .i64 sb, .int .i64 nx, .bool false, .slice a4 p.M.length cap4, .slice va4 0 vc4] 45))).alloc (.cells (bdMetL bd).cells.toArray 36)).alloc (.cells #[.int .u64 0, .bool false, .int .u64 0, .string ⟨#[]⟩, .string ⟨#[]⟩, .slice (some ⟨w4.heap.size + 1, 0, none⟩) 1 1] 39)); have hmet := ((Own.refl [] _).alloc (.cells #[.int .u64 0, .bool false, .int .u64 0, .string ⟨#[]⟩, .string ⟨#[]⟩, .slice (some ⟨w4.heap.size + 1, 0, none⟩) 1 1] 39)).heap (heap_alloc_new (w4.alloc (.cells #[.string ⟨#[103]⟩, .string ⟨#[110]⟩, .bool true, .int .i64 sb, .int .i64 nx, .bool false, .slice a4 p.M.length cap4, .slice va4 0 vc4] 45)) (.cells (bdMetL bd).cells.toArray 36)) (by simp); rw [show (w4.alloc (.cells #[.string ⟨#[103]⟩, .string ⟨#[110]⟩, .bool true, .int .i64 sb, .int .i64 nx, .bool false, .slice a4 p.M.length cap4, .slice va4 0 vc4] 45)).heap.size = w4.heap.size + 1 by simp] at hmet; have hrw := hrm.heap hrow4.out (by simp); have hq := heap_alloc_new ((w4.alloc (.cells #[.string ⟨#[103]⟩, .string ⟨#[110]⟩, .bool true, .int .i64 sb, .int .i64 nx, .bool false, .slice a4 p.M.length cap4, .slice va4 0 vc4] 45)).alloc (.cells (bdMetL bd).cells.toArray 36)) (.cells #[.int .u64 0, .bool false, .int .u64 0, .string ⟨#[]⟩, .string ⟨#[]⟩, .slice (some ⟨w4.heap.size + 1, 0, none⟩) 1 1] 39); rw [show ((w4.alloc (.cells #[.string ⟨#[103]⟩, .string ⟨#[110]⟩, .bool true, .int .i64 sb, .int .i64 nx, .bool false, .slice a4 p.M.length cap4, .slice va4 0 vc4] 45)).alloc (.cells (bdMetL bd).cells.toArray 36)).heap.size = w4.heap.size + 1 + 1 by simp] at hq; have cD := TX.out n _ s2 _ _ (some ⟨w4.heap.size + 1, 0, none⟩) hX5 (hDA.out _ _ hmet); simp only [bdMetL, Met.cells] at cD hmet; rw [hod.out (some ⟨w4.heap.size + 1, 0, none⟩) hbb] at cD; simp only at cD; replace cD := Lib.hid cD; (with_reducible refine cD.out.mono ?_); rintro e w6 ⟨rfl, hX6, hG6⟩; have hr6 := hG6.heap hrw hO4.out.size (by simp <;> omega); obtain ⟨⟨x0, x1, x2, x3, x4, x5, x6, x7⟩, _⟩ := blk8 hr6; replace hX6 := Lib.hid hX6; replace hG6 := Lib.hid hG6; replace hr6 := Lib.hid hr6; clear hX5 hrm hmet hrw hq))
            have hX7 := Lib.hid (hX6.out.nil' (Own.refl [] w6).drew)
            have hk7 := Lib.hid fun W (ho : Own [] w6.drew W) => (blk8 (ho.heap (b := w4.heap.size) hr6.out (by simp))).1
            have hVo := Lib.hid (hV4.out.gap (((Gap.nil (((((Own.refl [] w4).alloc (.cells #[.string ⟨#[103]⟩, .string ⟨#[110]⟩, .bool true, .int .i64 sb, .int .i64 nx, .bool false, .slice a4 p.M.length cap4, .slice va4 0 vc4] 45)).alloc (.cells (bdMetL bd).cells.toArray 36)).alloc (.cells #[.int .u64 0, .bool false, .int .u64 0, .string ⟨#[]⟩, .string ⟨#[]⟩, .slice (some ⟨w4.heap.size + 1, 0, none⟩) 1 1] 39)))).trans (hG6.out.mono' (by simp <;> omega))).trans (Gap.nil (Own.refl [] w6).drew)) (Nat.le_refl _))
            have cV7 := Lib.hid (hvw.out _ hX7.out.ei)
            have hfw := Lib.hid hX7.out.ei.1.few
            have kS := hk7.out _ (Own.refl _ _)
            clear x0 x1 x2 x3 x4 x5 x6 x7
            go_region_held3 (fun W => W.cell? ⟨w4.heap.size, 0, none⟩ = some (.string ⟨#[103]⟩) ∧ W.cell? ⟨w4.heap.size, 1, none⟩ = some (.string ⟨#[110]⟩) ∧ W.cell? ⟨w4.heap.size, 2, none⟩ = some (.bool true) ∧ W.cell? ⟨w4.heap.size, 3, none⟩ = some (.int .i64 sb) ∧ W.cell? ⟨w4.heap.size, 4, none⟩ = some (.int .i64 nx) ∧ W.cell? ⟨w4.heap.size, 5, none⟩ = some (.bool false) ∧ W.cell? ⟨w4.heap.size, 6, none⟩ = some (.slice a4 p.M.length cap4) ∧ W.cell? ⟨w4.heap.size, 7, none⟩ = some (.slice va4 0 vc4))
              (first | exact kS | go_keep | exact kA | exact kB | exact kC)
              ((first
                | (go_at_call 12; (with_reducible refine cV7.out.mono ?_); rintro e w8 ⟨a8, cap8, va8, vc8, V8, rfl, hV8, hO8⟩; have kA := hk7.out _ hO8; have cS8 := Lib.hid (hsame.out a8 va8 a4 va4 cap8 vc8 cap4 vc4 V8 V4 _ (hV8.at_ hfw.out) ((hVo.out.at_ hfw.out).nil' hO8)); replace hO8 := Lib.hid hO8; clear hV8)
                | (go_at_call 16; (with_reducible refine cS8.out.mono ?_); rintro e w9 ⟨rfl, hO9⟩; have hO89 := hO8.out.trans hO9; have kB := hk7.out _ hO89; replace hO89 := Lib.hid hO89; clear hO9)
                | (go_at_call 13; (with_reducible refine (AW.out _).mono ?_); rintro e w11 ⟨rfl, hO11⟩; have kC := hk7.out _ (hO89.out.trans hO11); replace hO11 := Lib.hid (hO89.out.trans hO11))))
            all_goals
              go_wp2_with fail
              go_ret
              exact ⟨rfl, (hOB.out.trans (hX7.out.ei.1.own.trans hO11.out)).below (Nat.le_refl _) (by simp)⟩
      · have hp := hcode hr1
        clear hyes hcode
        have hr1b : ((ePend (eBirth s p)).1 != 1) = true := by simpa using hr1
        generalize ePend (eBirth s p) = r at *
        obtain ⟨r1, s2⟩ := r
        simp only at cB hp hr1b
        replace cB := Lib.hid cB
        replace hp := Lib.hid hp
        clear hr1
        rcases hex with h2 | ⟨h2, h3⟩
        all_goals
          go_wp2_with (first
            | (go_at_call 10; (with_reducible refine cB.out.mono ?_); rintro e w3 ⟨rfl, hH3⟩; have cP := Lib.hid (ei_pending hH3 hp.out); replace hH3 := Lib.hid hH3)
            | (go_at_call 11; (with_reducible refine cP.out.mono ?_); rintro e w4 ⟨rfl, rfl⟩)
            | (go_at_call 13; (with_reducible refine (AW.out _).mono ?_); rintro e w7 ⟨rfl, hO7⟩; replace hO7 := Lib.hid (hOB.out.trans (hH3.out.1.own.trans hO7))))
          go_ret
          exact ⟨rfl, hO7.out.below (Nat.le_refl _) (by simp)⟩
end Go.Proofs.YtjfmbjgniajagaaGreatDoor
