/- AliasSet: an owner has just the aliases that were set last. -/
import Derived.Test.YtjbmmgclkhigiaaAliasAwake
import Derived.Deep.LoopGhost
namespace Go.Proofs.Ytjbmmgclkhigiaa
open Go.RowKit

theorem wantOf_len (ow : ByteArray) (L : List Itm) : (wantOf ow L).length = (L.filter (·.has)).length := by simp [wantOf]
theorem find_want {ow : ByteArray} {L : List Itm} (hn : ((wantOf ow L).map (·.1)).Nodup) {x : Itm} (hx : x ∈ L) (hh : x.has = true) : aFind (wantOf ow L) ow x.al = (x.name, true) := by
  have hm : (x.al, ((ow, x.name) : Stands)) ∈ wantOf ow L := List.mem_map.2 ⟨x, List.mem_filter.2 ⟨hx, hh⟩, rfl⟩
  unfold aFind
  rw [aGet_some_of _ hn hm]
  simp
def hasAl (L : List Itm) (a : Int) : Bool := L.any fun x => x.has && x.al == a
theorem find_other (ow : ByteArray) (L : List Itm) (a : Int) : (aFind (wantOf ow L) ow a).2 = hasAl L a := by
  unfold aFind
  cases hg : aGet (wantOf ow L) a with
  | none =>
    rw [aGet_none_iff] at hg
    symm
    simp only [hasAl, List.any_eq_false]
    intro x hx
    have := fun hh : x.has = true => hg (x.al, (ow, x.name)) (List.mem_map.2 ⟨x, List.mem_filter.2 ⟨hx, hh⟩, rfl⟩)
    simpa using this
  | some s =>
    have hm := aGet_mem hg
    obtain ⟨x, hx, he⟩ := List.mem_map.1 hm
    obtain ⟨hx1, hx2⟩ := List.mem_filter.1 hx
    have h1 : x.al = a := (Prod.mk.inj he).1
    have h2 : s.1 = ow := by rw [← (Prod.mk.inj he).2]
    have : hasAl L a = true := by
      simp only [hasAl, List.any_eq_true]
      exact ⟨x, hx1, by simp [hx2, h1]⟩
    rw [this]
    simp [h2]
theorem take_snoc (n : Nat) (its : Nat → Itm) (k : Nat) (h : k < n) : (itList n its).take (k + 1) = (itList n its).take k ++ [its k] := by
  rw [List.take_succ_eq_append_getElem (by simpa [itList] using h)]
  simp [itList]

set_option maxRecDepth 100000 in
set_option maxHeartbeats 4000000 in
theorem set_walk (a0 : Option Addr) (n0 c0 : Nat) (z0 : Nat → Itm) (a1 : Option Addr) (n1 c1 : Nat) (z1 : Nat → Itm) (other : Int) (w : World) (h0 : ItemRow w a0 n0 z0) (h1 : ItemRow w a1 n1 z1) (_ho : (Lit.int .u64 other).wf = true) :
    Calls Try.prog 3 #[.slice a0 n0 c0, .slice a1 n1 c1, .int .u64 other] w fun e w' => e = .returned (.bool true) ∧ Below w.heap.size w w' := by
  clear _ho
  have hl0 := h0.1
  have hl1 := h1.1
  have hA := Lib.hid (fun w => awake_any w)
  by_cases hbig : 200 < n0 + n1
  · clear h0 h1
    go_enter Try.func3, Try.ntmps3
    go_wp2_with fail
    refine (hA.out _).mono ?_
    rintro e w1 ⟨rfl, hO⟩
    go_wp2_with fail
    go_ret
    exact ⟨rfl, hO.below (Nat.le_refl _) (by simp)⟩
  · replace hbig : n0 + n1 ≤ 200 := by omega
    have hown : ∀ p ∈ (aSet [] ⟨#[100]⟩ (itList n0 z0)).2, p.2.1 = ⟨#[100]⟩ := aSet_own_all (by simp) _
    have hlen : (aSet [] ⟨#[100]⟩ (itList n0 z0)).2.length ≤ 1000000 := Nat.le_trans (aSet_len (by simp)) (by omega)
    have hS2 := aSet_own hown (itList n1 z1)
    have hS3 := aSet_own (T := []) (ow := ⟨#[100]⟩) (by simp) (itList n1 z1)
    generalize hT0 : aSet [] ⟨#[100]⟩ (itList n0 z0) = S0 at *
    obtain ⟨s0, T0⟩ := S0
    simp only at hown hlen hS2
    have hok := aMay_own_ok (ow := ⟨#[100]⟩) (L := itList n1 z1)
    generalize aMay [] ⟨#[100]⟩ (itList n1 z1) = M at *
    obtain ⟨code, mw⟩ := M
    simp only at hok hS2 hS3
    replace h0 := Lib.hid h0
    replace h1 := Lib.hid h1
    replace hT0 := Lib.hid hT0
    replace hok := Lib.hid hok
    clear hown
    by_cases hc : code = 0
    · subst hc
      rw [if_pos rfl] at hS2 hS3
      replace hS2 := Lib.hid hS2
      clear hS3
      go_enter Try.func3, Try.ntmps3
      go_wp2_with fail
      refine (new_any _).mono ?_
      rintro e w1 ⟨b, m, rfl, hT, hb, hm, hO⟩
      have S1 := Lib.hid (set_eq hT0.out c0 w1 hT (h0.out.own hO) (by simp))
      clear hT
      go_wp2_with fail
      refine S1.out.mono ?_
      rintro e w2 ⟨rfl, hT2, hO2⟩
      have hB2 : Below w.heap.size w w2 := hO.below (Nat.le_refl _) (by simp) |>.trans (hO2.below hO.size (by simp; omega))
      have S2 := Lib.hid (set_eq hS2.out c1 w2 hT2 (h1.out.below hB2) hlen)
      have hS2z := hO2.size
      have hS1z := hO.size
      clear hT2 S1
      go_wp2_with fail
      refine S2.out.mono ?_
      rintro e w3 ⟨rfl, hT3, hO3⟩
      have hB3 : Below w.heap.size w w3 := hB2.trans (hO3.below (by omega) (by simp; omega))
      clear S2 hB2 hO2 hO hO3 hS2z hS1z
      have hnd := Lib.hid hT3.nodup
      have hwl := (hok.out trivial).2
      have hwn := wantOf_len ⟨#[100]⟩ (itList n1 z1)
      have hfo := find_other ⟨#[100]⟩ (itList n1 z1) other
      replace hT3 := Lib.hid hT3
      replace hwn := Lib.hid hwn
      replace hfo := Lib.hid hfo
      replace hB3 := Lib.hid hB3
      go_wp2_with fail
      go_loopg [8, 9, 10] n1 (fun g n is i wr => ∃ k : Nat, k ≤ n1 ∧ g = n1 - k ∧ i = .int .i64 k ∧ n = .int .i64 (((itList n1 z1).take k).filter (·.has)).length ∧ is = .bool (hasAl ((itList n1 z1).take k) other) ∧
        Tab wr b m (wantOf ⟨#[100]⟩ (itList n1 z1)) ∧ Below w.heap.size w wr)
      case atStart => exact ⟨0, by omega, by omega, rfl, rfl, rfl, hT3.out, hB3.out⟩
      case round =>
        obtain ⟨k, hk, rfl, rfl, rfl, rfl, hT, hB⟩ := hrel
        clear hT3 hB3
        by_cases hlt : k < n1
        · have hI := h1.out.below hB
          obtain ⟨b1, o1, rfl, hb1, hx⟩ := hI.2 (by omega)
          have hcell := (hx k hlt).2
          have e1 : (((itList n1 z1).take (k + 1)).filter (·.has)).length = (((itList n1 z1).take k).filter (·.has)).length + if (z1 k).has then 1 else 0 := by
            rw [take_snoc _ _ _ hlt, List.filter_append]
            cases hh : (z1 k).has <;> simp [hh]
          have e2 : hasAl ((itList n1 z1).take (k + 1)) other = (hasAl ((itList n1 z1).take k) other || ((z1 k).has && (z1 k).al == other)) := by
            rw [take_snoc _ _ _ hlt]; simp [hasAl]
          have hmem : z1 k ∈ itList n1 z1 := List.mem_map.2 ⟨k, List.mem_range.2 hlt, rfl⟩
          have e3 := find_want (ow := ⟨#[100]⟩) hnd.out hmem
          have hcn : (((itList n1 z1).take k).filter (·.has)).length ≤ k := Nat.le_trans (List.length_filter_le _ _) (by simp; omega)
          generalize z1 k = x at *
          generalize (((itList n1 z1).take k).filter (·.has)).length = cn at *
          generalize hasAl ((itList n1 z1).take k) other = is at *
          obtain ⟨nm, hs, al, ty, nu, vk, vn, vs⟩ := x
          simp only at e1 e2 e3
          have c0 : wr.cell? ⟨b1, o1 + k * 8, none⟩ = some (.string nm) := hcell 0 _ rfl
          have c1 : wr.cell? ⟨b1, o1 + k * 8 + 1, none⟩ = some (.bool hs) := hcell 1 _ rfl
          have c2 : wr.cell? ⟨b1, o1 + k * 8 + 2, none⟩ = some (.int .u64 al) := hcell 2 _ rfl
          clear hx hcell hI hmem
          cases hs
          · have A : Aside ((((itList n1 z1).take (k + 1)).filter (·.has)).length = cn ∧ hasAl ((itList n1 z1).take (k + 1)) other = is ∧ Tab wr b m (wantOf ⟨#[100]⟩ (itList n1 z1)) ∧ Below w.heap.size w wr) := ⟨by simpa using e1, by simpa using e2, hT, hB⟩
            clear e1 e2 e3 hT hB c0 c2
            go_wp2_with fail
            go_roundg (n1 - (k + 1))
            case measure => omega
            case rel => exact ⟨k + 1, by omega, rfl, by go_num, by rw [A.out.1], by rw [A.out.2.1], A.out.2.2.1, A.out.2.2.2⟩
          · have F := Lib.hid (find_eq (e3 rfl) wr hT)
            have hwf : al = al := rfl
            have A : Aside ((((itList n1 z1).take (k + 1)).filter (·.has)).length = cn + 1 ∧ hasAl ((itList n1 z1).take (k + 1)) other = (is || (al == other)) ∧ Tab wr b m (wantOf ⟨#[100]⟩ (itList n1 z1)) ∧ Below w.heap.size w wr) := ⟨by simpa using e1, by simpa using e2, hT, hB⟩
            have hlb := lt_of_heap hT.row
            have hC : ∀ w2, Own [] wr w2 → w2.cell? ⟨b1, o1 + k * 8, none⟩ = some (.string nm) ∧ w2.cell? ⟨b1, o1 + k * 8 + 2, none⟩ = some (.int .u64 al) := fun w2 ho =>
              ⟨(ho.cell (p := ⟨b1, o1 + k * 8, none⟩) hb1 (by simp)).trans c0, (ho.cell (p := ⟨b1, o1 + k * 8 + 2, none⟩) hb1 (by simp)).trans c2⟩
            have hS := hB.size
            replace hC := Lib.hid hC
            clear e1 e2 e3 hT hB hwf
            go_wp2_with fail
            refine F.out.mono ?_
            rintro e w4 ⟨rfl, hO4⟩
            have c0' := (hC.out w4 hO4).1
            have c2' := (hC.out w4 hO4).2
            clear c0 c2 c1
            cases is
            · cases hio : (al == other)
              · obtain ⟨a1, a2, a3, a4⟩ := A.out
                have A2 : Aside ((((itList n1 z1).take (k + 1)).filter (·.has)).length = cn + 1 ∧ hasAl ((itList n1 z1).take (k + 1)) other = false ∧ Tab w4 b m (wantOf ⟨#[100]⟩ (itList n1 z1)) ∧ Below w.heap.size w w4) := ⟨a1, by rw [a2, hio]; rfl, a3.own hO4 (by simp) (by simp), a4.trans (hO4.below hS (by simp))⟩
                clear a1 a2 a3 a4 A
                go_wp2_with fail
                go_roundg (n1 - (k + 1))
                case measure => omega
                case rel => exact ⟨k + 1, by omega, rfl, by go_num, by rw [A2.out.1]; go_num, by rw [A2.out.2.1], A2.out.2.2.1, A2.out.2.2.2⟩
              · obtain ⟨a1, a2, a3, a4⟩ := A.out
                have A2 : Aside ((((itList n1 z1).take (k + 1)).filter (·.has)).length = cn + 1 ∧ hasAl ((itList n1 z1).take (k + 1)) other = true ∧ Tab w4 b m (wantOf ⟨#[100]⟩ (itList n1 z1)) ∧ Below w.heap.size w w4) := ⟨a1, by rw [a2, hio]; rfl, a3.own hO4 (by simp) (by simp), a4.trans (hO4.below hS (by simp))⟩
                clear a1 a2 a3 a4 A
                go_wp2_with fail
                go_roundg (n1 - (k + 1))
                case measure => omega
                case rel => exact ⟨k + 1, by omega, rfl, by go_num, by rw [A2.out.1]; go_num, by rw [A2.out.2.1], A2.out.2.2.1, A2.out.2.2.2⟩
            · obtain ⟨a1, a2, a3, a4⟩ := A.out
              have A2 : Aside ((((itList n1 z1).take (k + 1)).filter (·.has)).length = cn + 1 ∧ hasAl ((itList n1 z1).take (k + 1)) other = true ∧ Tab w4 b m (wantOf ⟨#[100]⟩ (itList n1 z1)) ∧ Below w.heap.size w w4) := ⟨a1, by rw [a2]; rfl, a3.own hO4 (by simp) (by simp), a4.trans (hO4.below hS (by simp))⟩
              clear a1 a2 a3 a4 A
              go_wp2_with fail
              go_roundg (n1 - (k + 1))
              case measure => omega
              case rel => exact ⟨k + 1, by omega, rfl, by go_num, by rw [A2.out.1]; go_num, by rw [A2.out.2.1], A2.out.2.2.1, A2.out.2.2.2⟩
        · obtain rfl : k = n1 := by omega
          have htk : (itList k z1).take k = itList k z1 := List.take_of_length_le (by simp [itList])
          rw [htk]
          have hcn : ((itList k z1).filter (·.has)).length = (wantOf ⟨#[100]⟩ (itList k z1)).length := hwn.out.symm
          have hfo' := hfo.out
          have hdx : (wantOf ⟨#[100]⟩ (itList k z1)).length - (aOthers (wantOf ⟨#[100]⟩ (itList k z1)) ⟨#[120]⟩).length = 0 ∧ aOthers (wantOf ⟨#[100]⟩ (itList k z1)) ⟨#[120]⟩ = wantOf ⟨#[100]⟩ (itList k z1) := by
            have : aOthers (wantOf ⟨#[100]⟩ (itList k z1)) ⟨#[120]⟩ = wantOf ⟨#[100]⟩ (itList k z1) := List.filter_eq_self.2 fun p hp => by
              rw [wantOf_own _ _ p hp]; decide
            rw [this]; exact ⟨by omega, rfl⟩
          have hdd : aOthers (wantOf ⟨#[100]⟩ (itList k z1)) ⟨#[100]⟩ = [] := aOthers_own (wantOf_own _ _)
          have hF := find_any b m _ ⟨#[100]⟩ other wr hT
          rw [hcn]
          rw [hfo'] at hF
          have hL : ∀ wx, Tab wx b m (wantOf ⟨#[100]⟩ (itList k z1)) → _ := fun wx h => len_any b m _ wx h
          have hDx := fun wx h => drop_any b m (wantOf ⟨#[100]⟩ (itList k z1)) ⟨#[120]⟩ wx h (by omega)
          have hDd := fun wx h => drop_any b m (wantOf ⟨#[100]⟩ (itList k z1)) ⟨#[100]⟩ wx h (by omega)
          have hL0 := fun wx h => len_any b m [] wx h
          rw [hdx.1, hdx.2] at hDx
          rw [hdd] at hDd
          simp only [List.length_nil, Nat.sub_zero] at hDd hL0
          have hSz := hB.size
          generalize hst : (aFind (wantOf ⟨#[100]⟩ (itList k z1)) ⟨#[100]⟩ other).1 = nm at hF
          clear hst hdx hdd hfo hfo' hwn hcn htk hnd
          generalize wantOf ⟨#[100]⟩ (itList k z1) = want at *
          generalize hasAl (itList k z1) other = is at *
          replace hF := Lib.hid hF
          replace hL := Lib.hid hL
          replace hDx := Lib.hid hDx
          replace hDd := Lib.hid hDd
          replace hL0 := Lib.hid hL0
          replace hT := Lib.hid hT
          clear hok hT0 h0 h1 hlt hk
          go_wp2_with fail
          refine hF.out.mono ?_
          rintro e w4 ⟨rfl, hO4⟩
          have hT4 := Lib.hid (hT.out.own hO4 (by simp) (by simp))
          have hB4 := hB.trans (hO4.below hSz (by simp))
          have hS4 := hB4.size
          clear hB hO4
          go_wp2_with fail
          refine (hL.out _ hT4.out).mono ?_
          rintro e w5 ⟨rfl, rfl⟩
          go_wp2_with fail
          refine (hDx.out _ hT4.out).mono ?_
          rintro e w6 ⟨rfl, hT6, hO6⟩
          have hB6 := hB4.trans (hO6.below hS4 (by simp; omega))
          have hS6 := hB6.size
          replace hT6 := Lib.hid hT6
          clear hB4 hO6
          go_wp2_with fail
          refine (hDd.out _ hT6.out).mono ?_
          rintro e w7 ⟨rfl, hT7, hO7⟩
          have hB7 := hB6.trans (hO7.below hS6 (by simp; omega))
          have hS7 := hB7.size
          replace hT7 := Lib.hid hT7
          clear hB6 hO7
          go_wp2_with fail
          refine (hL0.out _ hT7.out).mono ?_
          rintro e w8 ⟨rfl, rfl⟩
          go_wp2_with fail
          refine (hA.out _).mono ?_
          rintro e w9 ⟨rfl, hO9⟩
          go_wp2_with fail
          go_ret
          exact ⟨rfl, hB7.trans (hO9.below hS7 (by simp))⟩
    · rw [if_neg hc] at hS2 hS3
      have hcb : (code != 0) = true := by simpa using hc
      replace hS2 := Lib.hid hS2
      replace hS3 := Lib.hid hS3
      clear hc hok
      go_enter Try.func3, Try.ntmps3
      go_wp2_with fail
      refine (new_any _).mono ?_
      rintro e w1 ⟨b, m, rfl, hT, hb, hm, hO⟩
      have S1 := Lib.hid (set_eq hT0.out c0 w1 hT (h0.out.own hO) (by simp))
      clear hT
      go_wp2_with fail
      refine S1.out.mono ?_
      rintro e w2 ⟨rfl, hT2, hO2⟩
      have hB2 : Below w.heap.size w w2 := hO.below (Nat.le_refl _) (by simp) |>.trans (hO2.below hO.size (by simp; omega))
      have S2 := Lib.hid (set_eq hS2.out c1 w2 hT2 (h1.out.below hB2) hlen)
      have hS2z := hO2.size
      have hS1z := hO.size
      clear hT2 S1
      go_wp2_with fail
      refine S2.out.mono ?_
      rintro e w3 ⟨rfl, hT3, hO3⟩
      have hB3 : Below w.heap.size w w3 := hB2.trans (hO3.below (by omega) (by simp; omega))
      have hS3z := hO3.size
      clear S2 hB2 hO2 hO hT3
      go_wp2_with fail
      refine (new_any _).mono ?_
      rintro e w4 ⟨b2, m2, rfl, hT4, hb2, hm2, hO4⟩
      have hB4 : Below w.heap.size w w4 := hB3.trans (hO4.below (by omega) (by simp))
      have S4 := Lib.hid (set_eq hS3.out c1 w4 hT4 (h1.out.below hB4) (by simp))
      have hS4z := hO4.size
      clear hB3 hT4 hO4 hO3
      go_wp2_with fail
      refine S4.out.mono ?_
      rintro e w5 ⟨rfl, hT5, hO5⟩
      have hB5 : Below w.heap.size w w5 := hB4.trans (hO5.below (by omega) (by simp; omega))
      have hS5z := hO5.size
      clear hT5 hB4 hO5 S4
      go_wp2_with fail
      refine (hA.out _).mono ?_
      rintro e w9 ⟨rfl, hO9⟩
      go_wp2_with fail
      go_ret
      exact ⟨rfl, hB5.trans (hO9.below (by omega) (by simp))⟩
end Go.Proofs.Ytjbmmgclkhigiaa
