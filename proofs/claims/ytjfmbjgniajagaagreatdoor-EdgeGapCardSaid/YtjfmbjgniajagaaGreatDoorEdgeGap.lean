/- EdgeGap: data whose number is not the one that is wanted is refused, and the row waits for that one. -/
import Derived.Test.YtjfmbjgniajagaaGreatDoorEdgeH
import Derived.Test.YtjfmbjgniajagaaGreatDoorEdgeZero
import Derived.Test.YtjfmbjgniajagaaGreatDoorArgs
import Derived.Deep.LoopGhost
namespace Go.Proofs.YtjfmbjgniajagaaGreatDoor
open Go.RowKit

def gapSt (x : Int) (s : EN) : Prop := s.online = true ∧ s.begun = true ∧ s.want = x
def dataP (h : Bool) (k : Int) : Pay := ⟨0, h, k, ⟨#[]⟩, ⟨#[]⟩, none, [], 0⟩
theorem gap_yes {x : Int} {s : EN} (h : gapSt x s) (h1 : x < 256) : (ePend (eData s (dataP true x))).1 = 1 ∧ gapSt ((x + 1) % 256) (ePend (eData s (dataP true x))).2 := by
  obtain ⟨h2, h3, h4⟩ := h
  have e1 : (dataP true x).seq = (x, true) := by unfold Pay.seq dataP smallN; simp; omega
  have e2 : eFits s (dataP true x) = true := by unfold eFits; rw [e1, h3, h4]; simp
  have e3 : eData s (dataP true x) = (1, { s with items := s.items, want := (x + 1) % 256 }) := by
    unfold eData; rw [if_neg (by simp [h2]), if_neg (by simp [e2]), e1]; simp [dataP, updGo]
  rw [e3]
  unfold ePend
  simp [gapSt, h2, h3]
theorem gap_no {x : Int} {s : EN} (h : gapSt x s) (p : Pay) (hp : p.seq.2 = false ∨ p.seq.1 ≠ x) : (ePend (eData s p)).1 = 4 ∧ gapSt x (ePend (eData s p)).2 ∧ (ePend (eData s p)).2.pending = true := by
  obtain ⟨h2, h3, h4⟩ := h
  have e2 : eFits s p = false := by
    unfold eFits; rw [h3, h4]
    rcases hp with h5 | h5
    · rw [h5]; simp
    · simp [h5]
  have e3 : eData s p = (4, s) := by unfold eData; rw [if_neg (by simp [h2]), if_pos e2]
  rw [e3]
  unfold ePend
  simp [gapSt, h2, h3, h4]
def bdMet : Met := ⟨⟨#[98, 100, 83, 101, 113]⟩, false, 0, 0, 0, false, false, false, (none, 0, 0), (none, 0, 0), 1, 0, ⟨#[]⟩, (none, 0, 0), (none, 0, 0)⟩
theorem gap_birth {s : EN} (b : Int) (h1 : b < 256) (a : Option Addr) (c : Nat) : (ePend (eBirth s ⟨0, true, b, ⟨#[]⟩, ⟨#[]⟩, a, [bdMet], c⟩)).1 = 1 ∧ gapSt ((b + 1) % 256) (ePend (eBirth s ⟨0, true, b, ⟨#[]⟩, ⟨#[]⟩, a, [bdMet], c⟩)).2 := by
  have e1 : (⟨0, true, b, ⟨#[]⟩, ⟨#[]⟩, a, [bdMet], c⟩ : Pay).seq = (b, true) := by unfold Pay.seq smallN; simp; omega
  have e2 : (⟨0, true, b, ⟨#[]⟩, ⟨#[]⟩, a, [bdMet], c⟩ : Pay).bd = (0, true) := by
    show (match metFind [bdMet] bdName with | none => (0, false) | some m => if m.null = true then (0, false) else if m.vk = 1 ∨ m.vk = 2 then smallN m.vn else (0, false)) = _
    have : metFind [bdMet] bdName = some bdMet := by kernel_rfl
    rw [this]; decide
  have e3 : (bornL [bdMet]).1 = 1 := by kernel_rfl
  have e4 : clashC (aSet [] noName (bornL [bdMet]).2).1 = 1 := by kernel_rfl
  have e5 : eBirth s ⟨0, true, b, ⟨#[]⟩, ⟨#[]⟩, a, [bdMet], c⟩ = (1, ⟨true, 0, (b + 1) % 256, true, false, (bornL [bdMet]).2, (aSet [] noName (bornL [bdMet]).2).2, []⟩) := by
    unfold eBirth
    rw [if_neg (by rw [e2]; simp), if_neg (by rw [e1]; simp), if_neg (by simpa using e3), if_neg (by simpa using e4), e1, e2]
  rw [e5]
  unfold ePend
  simp [gapSt]
theorem view_next (g nm : ByteArray) (on pe : Bool) (bd x : Int) (a b : Option Addr) (l c l2 c2 : Nat) (w : World) : (Instr.field 45 (.agg #[.string g, .string nm, .bool on, .int .i64 bd, .int .i64 x, .bool pe, .slice a l c, .slice b l2 c2]) 4).run Tryz.prog w = .ok (.int .i64 x) w := by kernel_rfl
theorem gview {w wr : World} {n : Nat} {g nm : ByteArray} {s : EN} {x : Int} (h : EH w wr n g nm s) (hs : gapSt x s) : Calls Tryz.prog 12 #[.pointer (some ⟨n, 0, none⟩)] wr fun e w' => ∃ q3 q5 a l c va vn vc, e = .returned (.agg #[.string g, .string nm, .bool true, .int .i64 q3, .int .i64 x, .bool q5, .slice a l c, .slice va vn vc]) ∧ EH w w' n g nm s :=
  h.view.mono (by
    rintro e w' ⟨a, cap, va, vn, vc, V, rfl, _, _, hE⟩
    refine ⟨bdV s, s.pending, a, s.items.length, cap, va, vn, vc, ?_, hE⟩
    have : nextV s = x := by unfold nextV; rw [if_pos hs.2.1, hs.2.2]
    rw [this, hs.1])
theorem gtake_yes {w wr : World} {n : Nat} {g nm : ByteArray} {s : EN} {x : Int} (h : EH w wr n g nm s) (hs : gapSt x s) (h0 : 0 ≤ x) (h1 : x < 256) (hE : Errs w) : Calls Tryz.prog 10 #[.pointer (some ⟨n, 0, none⟩), .int .i64 3, .string ⟨#[]⟩, .agg #[.int .u64 0, .bool true, .int .u64 x, .string ⟨#[]⟩, .string ⟨#[]⟩, .slice none 0 0]] wr fun e w' => ∃ s', e = .returned (.int .i64 1) ∧ EH w w' n g nm s' ∧ gapSt ((x + 1) % 256) s' :=
  (h.take3 ⟨#[]⟩ (dataP true x) (RowsAt.empty _ _) h0 hE).mono (by
    rintro e w' ⟨rfl, h2⟩
    exact ⟨_, by rw [(gap_yes hs h1).1], h2, (gap_yes hs h1).2⟩)
theorem gtake_no {w wr : World} {n : Nat} {g nm : ByteArray} {s : EN} {x k : Int} {hb : Bool} (h : EH w wr n g nm s) (hs : gapSt x s) (h0 : 0 ≤ k) (hE : Errs w) (hp : (dataP hb k).seq.2 = false ∨ (dataP hb k).seq.1 ≠ x) : Calls Tryz.prog 10 #[.pointer (some ⟨n, 0, none⟩), .int .i64 3, .string ⟨#[]⟩, .agg #[.int .u64 0, .bool hb, .int .u64 k, .string ⟨#[]⟩, .string ⟨#[]⟩, .slice none 0 0]] wr fun e w' => ∃ s', e = .returned (.int .i64 4) ∧ EH w w' n g nm s' ∧ gapSt x s' ∧ s'.pending = true :=
  (h.take3 ⟨#[]⟩ (dataP hb k) (RowsAt.empty _ _) h0 hE).mono (by
    rintro e w' ⟨rfl, h2⟩
    exact ⟨_, by rw [(gap_no hs _ hp).1], h2, (gap_no hs _ hp).2⟩)
theorem gpend {w wr : World} {n : Nat} {g nm : ByteArray} {s : EN} (h : EH w wr n g nm s) (hp : s.pending = true) : Calls Tryz.prog 11 #[.pointer (some ⟨n, 0, none⟩)] wr fun e w' => e = .returned (.bool true) ∧ wr = w' := hp ▸ h.pending
set_option maxRecDepth 100000 in
set_option maxHeartbeats 4000000 in
theorem edgeGap_walk (b : Int) (a : Option Addr) (len cap : Nat) (z : Nat → Int) (w : World) (hb : (Lit.int .u8 b).wf = true) (hz : IntRow .u8 w a len z) (hE : Errs w) :
    Calls Tryz.prog 3 #[.int .u8 b, .slice a len cap] w fun e w' => e = .returned (.bool true) ∧ Below w.heap.size w w' := by
  obtain ⟨hb0, hb1⟩ := bounds_u8 hb
  have AW := Lib.hid (fun W => awake_any W)
  have NW := Lib.hid (fun W => EH.new ⟨#[103]⟩ ⟨#[110]⟩ W (by kernel_rfl) (by kernel_rfl))
  clear hb
  go_enter Tryz.func3, Tryz.ntmps3
  go_wp2_with (go_at_call 9; (with_reducible refine (NW.out _).mono ?_); rintro e w1 ⟨n, rfl, hN⟩; replace hN := Lib.hid hN)
  have hA15 : Own [] w1 (w1.alloc (.cells bdMet.cells.toArray 36)) := (Own.refl _ _).alloc _
  have hA2 : Own [] w1 ((w1.alloc (.cells bdMet.cells.toArray 36)).alloc (.cells #[.int .u64 0, .bool true, .int .u64 b, .string ⟨#[]⟩, .string ⟨#[]⟩, .slice (some ⟨w1.heap.size, 0, none⟩) 1 1] 39)) := hA15.alloc _
  have hM1 : MetsAt ((w1.alloc (.cells bdMet.cells.toArray 36)).alloc (.cells #[.int .u64 0, .bool true, .int .u64 b, .string ⟨#[]⟩, .string ⟨#[]⟩, .slice (some ⟨w1.heap.size, 0, none⟩) 1 1] 39)) (some ⟨w1.heap.size, 0, none⟩) [bdMet] :=
    RowsAt.of_block Met.cells_len (((Own.refl [] _).alloc _).heap (heap_alloc_new w1 (.cells bdMet.cells.toArray 36)) (by simp)) (by simp [rowOf]) (by simp) (by simp [bdMet, Met.wf])
  have hB1 := fun s => gap_birth (s := s) b (by omega) (some ⟨w1.heap.size, 0, none⟩) 1
  have cB : Calls Tryz.prog 10 #[.pointer (some ⟨n, 0, none⟩), .int .i64 1, .string ⟨#[]⟩, .agg #[.int .u64 0, .bool true, .int .u64 b, .string ⟨#[]⟩, .string ⟨#[]⟩, .slice (some ⟨w1.heap.size, 0, none⟩) 1 1]] ((w1.alloc (.cells bdMet.cells.toArray 36)).alloc (.cells #[.int .u64 0, .bool true, .int .u64 b, .string ⟨#[]⟩, .string ⟨#[]⟩, .slice (some ⟨w1.heap.size, 0, none⟩) 1 1] 39)) fun e w' => ∃ s, e = .returned (.int .i64 1) ∧ EH w w' n ⟨#[103]⟩ ⟨#[110]⟩ s ∧ gapSt ((b + 1) % 256) s :=
    (EH.take1 ⟨#[]⟩ ⟨0, true, b, ⟨#[]⟩, ⟨#[]⟩, some ⟨w1.heap.size, 0, none⟩, [bdMet], 1⟩ (hN.out.nil' hA2) hM1 hb0 hE).mono (by
      rintro e w' ⟨rfl, h⟩
      exact ⟨_, by rw [(hB1 _).1], h, (hB1 _).2⟩)
  simp only [bdMet, Met.cells] at cB
  replace cB := Lib.hid cB
  clear hA15 hA2 hM1 hB1
  go_wp2_with (go_at_call 10; (with_reducible refine cB.out.mono ?_); rintro e w2 ⟨s1, rfl, hN2, hg2⟩; replace hN2 := Lib.hid hN2; replace hg2 := Lib.hid hg2)
  have hfl := view_next
  have hlen := hz.1
  replace hz := Lib.hid hz
  replace hE := Lib.hid hE
  clear hN cB
  go_loopg [8, 9] len (fun m s8 s9 wr => ∃ (i : Nat) (x : Int) (s : EN), i ≤ len ∧ m = len - i ∧ s8 = .int .i64 x ∧ s9 = .int .i64 i ∧ (0 ≤ x ∧ x < 256) ∧ Aside (EH w wr n ⟨#[103]⟩ ⟨#[110]⟩ s ∧ gapSt x s))
  case atStart => exact ⟨0, (b + 1) % 256, s1, by omega, rfl, rfl, rfl, by omega, hN2.out, hg2.out⟩
  case round =>
    obtain ⟨i, x, s, hi, rfl, rfl, rfl, hx, hH, hs⟩ := hrel
    by_cases hlt : i < len
    · by_cases h60 : i < 60
      · obtain ⟨g, o, hag, hgl, hcl⟩ := hz.out.2 (by omega)
        have hco := hH.own.cell (p := ⟨g, o + i, none⟩) hgl (by simp)
        obtain ⟨hc1, hc2⟩ := hcl i hlt
        rw [hc1] at hco
        obtain ⟨hz0, hz1⟩ := bounds_u8 hc2
        generalize z i = zi at *
        subst hag
        have hgo := Lib.hid (fun (r : Nat) (_ : i % 3 = r) => (⟨(Int.ofNat_tmod i 3).symm ▸ (by omega), by omega⟩ : (i : Int).tmod 3 = (r : Int) ∧ (i : Int) % 3 = (r : Int)))
        obtain ⟨r, hr⟩ : ∃ r, i % 3 = r := ⟨_, rfl⟩
        obtain ⟨hr1, hr2⟩ := hgo.out r hr
        replace hr := Lib.hid hr
        replace hlt := hlt
        have V2 := Lib.hid (fun w wr s x h hs => gview (n := n) (g := ⟨#[103]⟩) (nm := ⟨#[110]⟩) (w := w) (wr := wr) (s := s) (x := x) h hs)
        have N2 := Lib.hid (fun wr s x h hs => gtake_no (w := w) (n := n) (g := ⟨#[103]⟩) (nm := ⟨#[110]⟩) (wr := wr) (s := s) (x := x) (k := 0) (hb := false) h hs (by omega) hE.out (.inl rfl))
        by_cases h3 : r = 0
        · subst h3
          by_cases hzx : zi = x
          · subst hzx
            have cT := Lib.hid (gtake_yes hH hs hx.1 hx.2 hE.out)
            clear hH hs V2
            go_wp2_with (first
            | (go_at_call 10; (with_reducible refine cT.out.mono ?_); rintro e w3 ⟨s3, rfl, hH3, hs3⟩; have cV := Lib.hid (gview hH3 hs3); replace hH3 := Lib.hid hH3; replace hs3 := Lib.hid hs3)
            | (go_at_call 12; (with_reducible refine cV.out.mono ?_); rintro e w4 ⟨q3, q5, va, vl, vc, da, dn, dc, rfl, hH4⟩; have cN := Lib.hid (N2.out _ _ _ hH4 hs3.out))
            | (go_at_call 10; (with_reducible refine cN.out.mono ?_); rintro e w5 ⟨s5, rfl, hH5, hs5, hp5⟩; have hF := Lib.hid (And.intro hH5 hs5); clear hH5 hs5 hp5))
            go_roundg (len - (i + 1))
            case rel => exact ⟨i + 1, (zi + 1) % 256, s5, by omega, rfl, rfl, by go_num, by omega, hF.out⟩
            case measure => omega
          · have hzb : (zi == x) = false := by simpa using hzx
            have cT := Lib.hid (gtake_no (k := zi) (hb := true) hH hs hz0 hE.out (.inr (by unfold Pay.seq dataP smallN; simp only [if_true]; rw [if_neg (by omega)]; exact hzx)))
            clear hH hs V2
            go_wp2_with (first
            | (go_at_call 10; (with_reducible refine cT.out.mono ?_); rintro e w3 ⟨s3, rfl, hH3, hs3, hp3⟩; have cV := Lib.hid (gview hH3 hs3); have cP := Lib.hid (gpend hH3 hp3); clear hp3; replace hH3 := Lib.hid hH3; replace hs3 := Lib.hid hs3)
            | (go_at_call 11; (with_reducible refine cP.out.mono ?_); rintro e w6 ⟨rfl, rfl⟩)
            | (go_at_call 12; (with_reducible refine cV.out.mono ?_); rintro e w4 ⟨q3, q5, va, vl, vc, da, dn, dc, rfl, hH4⟩; have cN := Lib.hid (N2.out _ _ _ hH4 hs3.out))
            | (go_at_call 10; (with_reducible refine cN.out.mono ?_); rintro e w5 ⟨s5, rfl, hH5, hs5, hp5⟩; have hF := Lib.hid (And.intro hH5 hs5); clear hH5 hs5 hp5))
            go_roundg (len - (i + 1))
            case rel => exact ⟨i + 1, x, s5, by omega, rfl, rfl, by go_num, by omega, hF.out⟩
            case measure => omega
        · have hr0 : ((r : Int) == 0) = false := by simpa using h3
          have hr9 : ((r : Int) != 0) = true := by simpa using h3
          have cT := Lib.hid (gtake_yes hH hs hx.1 hx.2 hE.out)
          clear hH hs V2
          go_wp2_with (first
            | (go_at_call 10; (with_reducible refine cT.out.mono ?_); rintro e w3 ⟨s3, rfl, hH3, hs3⟩; have cV := Lib.hid (gview hH3 hs3); replace hH3 := Lib.hid hH3; replace hs3 := Lib.hid hs3)
            | (go_at_call 12; (with_reducible refine cV.out.mono ?_); rintro e w4 ⟨q3, q5, va, vl, vc, da, dn, dc, rfl, hH4⟩; have cN := Lib.hid (N2.out _ _ _ hH4 hs3.out))
            | (go_at_call 10; (with_reducible refine cN.out.mono ?_); rintro e w5 ⟨s5, rfl, hH5, hs5, hp5⟩; have hF := Lib.hid (And.intro hH5 hs5); clear hH5 hs5 hp5))
          go_roundg (len - (i + 1))
          case rel => exact ⟨i + 1, (x + 1) % 256, s5, by omega, rfl, rfl, by go_num, by omega, hF.out⟩
          case measure => omega
      · go_wp2_with (go_at_call 13; (with_reducible refine (AW.out _).mono ?_); rintro e w7 ⟨rfl, hO7⟩; replace hO7 := Lib.hid (hH.own.trans hO7))
        go_ret
        exact ⟨rfl, hO7.out.below (Nat.le_refl _) (by simp)⟩
    · go_wp2_with (go_at_call 13; (with_reducible refine (AW.out _).mono ?_); rintro e w7 ⟨rfl, hO7⟩; replace hO7 := Lib.hid (hH.own.trans hO7))
      go_ret
      exact ⟨rfl, hO7.out.below (Nat.le_refl _) (by simp)⟩
end Go.Proofs.YtjfmbjgniajagaaGreatDoor
