/- The document's aliases: Try. -/
import Derived.Test.YtggcfehghgpjmaaDoorAliasRef
import Derived.Test.YtggcfehghgpjmaaDoorItemsFind2
namespace Go.Proofs.YtggcfehghgpjmaaDoor
open Go.RowKit

/-! ### plain -/
def rDup (pre : List Itm) (x : Itm) : Bool := pre.any fun y => y.has && y.al == x.al
def rClash (R : ATab) (ow : ByteArray) (x : Itm) : Bool := R.any fun p => !(p.2.1 == ow) && p.1 == x.al
def rGo (R : ATab) (ow : ByteArray) : List Itm → List Itm → Nat → Int
  | _, [], n => if 64 < n then 6 else 0
  | pre, x :: r, n => if x.has then (if rDup pre x then 16 else if rClash R ow x then 16 else rGo R ow (pre ++ [x]) r (n + 1)) else rGo R ow (pre ++ [x]) r n
def rTry (R : ATab) (ow : ByteArray) (L : List Itm) : Int := rGo R ow [] L (aOthers R ow).length
theorem rGo_cons (R : ATab) (ow : ByteArray) (pre : List Itm) (x : Itm) (r : List Itm) (n : Nat) : rGo R ow pre (x :: r) n = if x.has then (if rDup pre x then 16 else if rClash R ow x then 16 else rGo R ow (pre ++ [x]) r (n + 1)) else rGo R ow (pre ++ [x]) r n := rfl
theorem take_itAt {L : List Itm} {k : Nat} (h : k < L.length) : L.take k ++ [itAt L k] = L.take (k + 1) ∧ L.drop k = itAt L k :: L.drop (k + 1) := by
  have hg : L[k] = itAt L k := by simp [itAt, List.getD, h]
  rw [← hg]
  exact ⟨(List.take_succ_eq_append_getElem h).symm, List.drop_eq_getElem_cons h⟩
theorem rDup_yes {L : List Itm} {i k : Nat} {x : Itm} (hk : k < i) (hi : i ≤ L.length) (h1 : (itAt L k).has = true) (h2 : ((itAt L k).al == x.al) = true) : rDup (L.take i) x = true := by
  unfold rDup
  rw [List.any_eq_true]
  refine ⟨itAt L k, ?_, by simp [h1, h2]⟩
  have hg : (L.take i)[k]? = some (itAt L k) := by rw [List.getElem?_take_of_lt hk]; exact itAt_get (by omega)
  exact List.mem_of_getElem? hg
theorem rDup_no {L : List Itm} {i : Nat} {x : Itm} (hi : i ≤ L.length) (h : ∀ k, k < i → ((itAt L k).has && (itAt L k).al == x.al) = false) : rDup (L.take i) x = false := by
  unfold rDup
  rw [List.any_eq_false]
  intro y hy
  obtain ⟨k, hk⟩ := List.getElem?_of_mem hy
  have hkl : k < i := by
    have := (List.getElem?_eq_some_iff.1 hk).1
    simp at this
    omega
  rw [List.getElem?_take_of_lt hkl, itAt_get (by omega)] at hk
  cases hk
  simpa using h k hkl
theorem rClash_yes {R : ATab} {ow : ByteArray} {k : Nat} {x : Itm} (hk : k < R.length) (h1 : ((rAt R k).2.1 == ow) = false) (h2 : ((rAt R k).1 == x.al) = true) : rClash R ow x = true := by
  unfold rClash
  rw [List.any_eq_true]
  exact ⟨rAt R k, List.mem_of_getElem? (rAt_get hk), by simp [h1, h2]⟩
theorem rClash_no {R : ATab} {ow : ByteArray} {x : Itm} (h : ∀ k, k < R.length → (!((rAt R k).2.1 == ow) && (rAt R k).1 == x.al) = false) : rClash R ow x = false := by
  unfold rClash
  rw [List.any_eq_false]
  intro y hy
  obtain ⟨k, hk⟩ := List.getElem?_of_mem hy
  have hkl := (List.getElem?_eq_some_iff.1 hk).1
  rw [rAt_get hkl] at hk
  cases hk
  simpa using h k hkl
theorem aOthers_take {R : ATab} {ow : ByteArray} {k : Nat} (h : k < R.length) : (aOthers (R.take (k + 1)) ow).length = (aOthers (R.take k) ow).length + if (rAt R k).2.1 == ow then 0 else 1 := by
  have hg : R[k] = rAt R k := by simp [rAt, List.getD, h]
  rw [List.take_succ_eq_append_getElem h, hg]
  unfold aOthers
  rw [List.filter_append, List.length_append]
  congr 1
  cases hx : ((rAt R k).2.1 == ow) <;> simp [hx]
theorem aOthers_le (R : ATab) (ow : ByteArray) : (aOthers R ow).length ≤ R.length := List.length_filter_le _ _

set_option maxRecDepth 100000 in
set_option maxHeartbeats 8000000 in
theorem rtry_any (xb : Nat) (v : Value) (R : ATab) (ow : ByteArray) (a : Option Addr) (L : List Itm) (c : Nat) (w : World) (h : RTab w xb v R) (hl : R.length ≤ 1000000) (hA : ItemsAt w a L) :
    Calls Tryd.prog 31 #[.pointer (some ⟨xb, 0, none⟩), .string ow, .slice a L.length c] w fun e w' => e = .returned (.int .i64 (rTry R ow L)) ∧ Own [] w w' := by
  obtain ⟨ra, cap, rfl, hrow⟩ := h.form
  have hlL := hA.1
  have c0 : w.cell? ⟨xb, 0, none⟩ = some (.slice ra R.length cap) := cell_of_row w xb 0 _ _ _ h.row
  have hxl := lt_of_heap h.row
  have hle := aOthers_le R ow
  generalize hr : rTry R ow L = r
  unfold rTry at hr
  generalize hN0 : (aOthers R ow).length = N0 at hr hle
  replace hr := Lib.hid hr
  replace hN0 := Lib.hid hN0
  replace hrow := Lib.hid hrow
  replace hA := Lib.hid hA
  clear h
  go_enter Tryd.func31, Tryd.ntmps31
  go_wp2_with fail
  go_loopg [7, 8] R.length (fun g s7 s8 wr => ∃ k n : Nat, k ≤ R.length ∧ g = R.length - k ∧ s8 = .int .i64 k ∧ s7 = .int .i64 n ∧ n ≤ k ∧ wr = w ∧ Hid (n = (aOthers (R.take k) ow).length))
  case atStart => exact ⟨0, 0, by omega, by omega, rfl, rfl, by omega, rfl, Lib.hid rfl⟩
  case round =>
    obtain ⟨k, n, hk, rfl, rfl, rfl, hn, hwr, hN⟩ := hrel
    have hwr2 := hwr.symm
    clear hwr
    subst hwr2
    by_cases hlt : k < R.length
    · obtain ⟨g, rfl, hR⟩ := hrow.out (by omega)
      obtain ⟨d0, d1, d2⟩ := row3 hR hlt
      have hs := aOthers_take (ow := ow) hlt
      rw [← hN.out] at hs
      generalize rAt R k = x at d0 d1 d2 hs
      obtain ⟨xa, xo, xn⟩ := x
      simp only at d0 d1 d2 hs
      have q0 : (0 : Int) ≤ k := by omega
      have q1 : (k : Int) < R.length := by omega
      clear hR
      cases ho : (xo == ow)
      · rw [ho] at hs
        replace hs := Lib.hid hs
        have ho1 : (xo.toList != ow.toList) = true := by rw [bne, ← beq_toListBytes, ho]; rfl
        have ho2 : (xo.toList == ow.toList) = false := by rw [← beq_toListBytes, ho]
        clear ho
        go_wp2_with fail
        go_roundg (R.length - (k + 1))
        case measure => omega
        case rel => exact ⟨k + 1, n + 1, by omega, rfl, by go_num, by go_num, by omega, rfl, Lib.hid (by have := hs.out; simpa using this.symm)⟩
      · rw [ho] at hs
        replace hs := Lib.hid hs
        have ho1 : (xo.toList != ow.toList) = false := by rw [bne, ← beq_toListBytes, ho]; rfl
        have ho2 : (xo.toList == ow.toList) = true := by rw [← beq_toListBytes, ho]
        clear ho
        go_wp2_with fail
        go_roundg (R.length - (k + 1))
        case measure => omega
        case rel => exact ⟨k + 1, n, by omega, rfl, by go_num, rfl, by omega, rfl, Lib.hid (by have := hs.out; simpa using this.symm)⟩
    · obtain rfl : k = R.length := by omega
      have hnN : n = N0 := by rw [← hN0.out, hN.out, List.take_length]
      subst hnN
      clear hN
      go_wp2_with fail
      go_loopg [7, 9] L.length (fun g s7 s9 wr => ∃ i m : Nat, i ≤ L.length ∧ g = L.length - i ∧ s9 = .int .i64 i ∧ s7 = .int .i64 m ∧ m ≤ 1000000 + i ∧ Aside (Own [] w wr ∧ rGo R ow (L.take i) (L.drop i) m = r))
      case atStart => exact ⟨0, n, by omega, by omega, rfl, rfl, by omega, Own.refl _ _, hr.out⟩
      case round =>
        obtain ⟨i, m, hi, rfl, rfl, rfl, hm, hO, hG⟩ := hrel
        clear hr
        by_cases hil : i < L.length
        · obtain ⟨b, o, rfl, hb, _, hc⟩ := (hA.out.nil' hO).item hil
          obtain ⟨ht1, ht2⟩ := take_itAt hil
          rw [ht2, rGo_cons, ht1] at hG
          have hdy : ∀ k, k < i → (itAt L k).has = true → ((itAt L k).al == (itAt L i).al) = true → rDup (L.take i) (itAt L i) = true := fun k h1 h2 h3 => rDup_yes h1 hi h2 h3
          have hdn := rDup_no (x := itAt L i) hi
          have hcy : ∀ k, k < R.length → ((rAt R k).2.1 == ow) = false → ((rAt R k).1 == (itAt L i).al) = true → rClash R ow (itAt L i) = true := fun k h1 h2 h3 => rClash_yes h1 h2 h3
          have hcn := rClash_no (R := R) (ow := ow) (x := itAt L i)
          generalize itAt L i = x at hc hG hdy hdn hcy hcn
          obtain ⟨nm, hs, al, ty, nu, vk, vn, vs⟩ := x
          simp only at hG hdy hdn hcy hcn
          generalize rDup (L.take i) _ = D at hG hdy hdn
          generalize rClash R ow _ = C at hG hcy hcn
          have q0 : (0 : Int) ≤ i := by omega
          have q1 : (i : Int) < L.length := by omega
          have e1 := hc 1 _ rfl
          replace hG := Lib.hid hG
          replace hdy := Lib.hid hdy
          replace hdn := Lib.hid hdn
          replace hcy := Lib.hid hcy
          replace hcn := Lib.hid hcn
          replace hO := Lib.hid hO
          replace hc := Lib.hid hc
          have c1 : wr.cell? ⟨xb, 0, none⟩ = some (.slice ra R.length cap) := (hO.out.cell (p := ⟨xb, 0, none⟩) hxl (by simp)).trans c0
          clear ht1 ht2
          cases hs
          · replace hG : Hid (rGo R ow (L.take (i + 1)) (L.drop (i + 1)) m = r) := Lib.hid (by simpa using hG.out)
            go_wp2_with fail
            go_roundg (L.length - (i + 1))
            case measure => omega
            case rel => exact ⟨i + 1, m, by omega, rfl, by go_num, rfl, by omega, hO.out, hG.out⟩
          · replace hG : Hid ((if D = true then 16 else if C = true then 16 else rGo R ow (L.take (i + 1)) (L.drop (i + 1)) (m + 1)) = r) := Lib.hid (by simpa using hG.out)
            obtain ⟨wa, rfl⟩ : ∃ wa : World, wa = wr := ⟨_, rfl⟩
            go_wp2_with fail
            go_loopg [10] i (fun g s10 wr => ∃ k : Nat, k ≤ i ∧ g = i - k ∧ s10 = .int .i64 k ∧ Aside (Own [] wa wr ∧ ∀ j, j < k → ((itAt L j).has && (itAt L j).al == al) = false))
            case atStart => exact ⟨0, by omega, by omega, rfl, Own.refl _ _, fun j hj => by omega⟩
            case round =>
              obtain ⟨k, hk, rfl, rfl, hOk, hno⟩ := hrel
              by_cases hki : k < i
              · obtain ⟨b', o', he', _, _, hck⟩ := (hA.out.nil' (hO.out.trans hOk)).item (show k < L.length by omega)
                cases he'
                have f1 := hck 1 _ rfl
                have f2 := hck 2 _ rfl
                have f3 := At8.own (x := ⟨nm, true, al, ty, nu, vk, vn, vs⟩) hc.out hOk hb (by simp) 2 _ rfl
                have hdk := hdy.out k hki
                have hns : ∀ bq, ((itAt L k).has && (itAt L k).al == al) = bq → bq = false → ∀ j, j < k + 1 → ((itAt L j).has && (itAt L j).al == al) = false := by
                  intro bq h1 h2 j hj
                  by_cases e : j = k
                  · rw [e, h1, h2]
                  · exact hno j (by omega)
                generalize (itAt L k).has = kh at f1 hdk hns
                generalize (itAt L k).al = ka at f2 hdk hns
                have p0 : (0 : Int) ≤ k := by omega
                have p1 : (k : Int) < L.length := by omega
                replace hOk := Lib.hid hOk
                replace hdk := Lib.hid hdk
                replace hns := Lib.hid hns
                clear hck hno c1 e1
                cases kh
                · go_wp2_with fail
                  go_quiet (fail)
                  go_wp2_with fail
                  go_roundg (i - (k + 1))
                  case measure => omega
                  case rel => exact ⟨k + 1, by omega, rfl, by go_num, hOk.out.drewN _, hns.out false (by simp) rfl⟩
                · cases hka : (ka == al)
                  · go_wp2_with fail
                    go_quiet (fail)
                    go_wp2_with fail
                    go_roundg (i - (k + 1))
                    case measure => omega
                    case rel => exact ⟨k + 1, by omega, rfl, by go_num, hOk.out.drewN _, hns.out false (by simp [hka]) rfl⟩
                  · have hr16 : r = 16 := by have := hG.out; rw [hdk.out rfl hka] at this; simpa using this.symm
                    replace hr16 := Lib.hid hr16
                    go_wp2_with fail
                    go_quiet (fail)
                    go_wp2_with fail
                    go_ret
                    exact ⟨by rw [hr16.out]; rfl, (hO.out.trans hOk.out).drewN _⟩
              · obtain rfl : k = i := by omega
                have hD : D = false := hdn.out hno
                subst hD
                replace hG : Hid ((if C = true then 16 else rGo R ow (L.take (k + 1)) (L.drop (k + 1)) (m + 1)) = r) := Lib.hid (by simpa using hG.out)
                have hOO := hO.out.trans hOk
                have c2 : wr.cell? ⟨xb, 0, none⟩ = some (.slice ra R.length cap) := (hOk.cell (p := ⟨xb, 0, none⟩) (Nat.lt_of_lt_of_le hxl hO.out.size) (by simp)).trans c1
                have f3 := At8.own (x := ⟨nm, true, al, ty, nu, vk, vn, vs⟩) hc.out hOk hb (by simp) 2 _ rfl
                replace hOO := Lib.hid hOO
                have hbw : b < wr.heap.size := Nat.lt_of_lt_of_le hb hOk.size
                have hxw : xb < wr.heap.size := Nat.lt_of_lt_of_le hxl hOO.out.size
                clear hno hdn hdy e1 c1 hOk hO hc
                obtain ⟨wz, rfl⟩ : ∃ wz : World, wz = wr := ⟨_, rfl⟩
                go_wp2_with fail
                go_loopg [11] R.length (fun g s11 wr => ∃ j : Nat, j ≤ R.length ∧ g = R.length - j ∧ s11 = .int .i64 j ∧ Aside (Own [] wz wr ∧ ∀ q, q < j → (!((rAt R q).2.1 == ow) && (rAt R q).1 == al) = false))
                case atStart => exact ⟨0, by omega, by omega, rfl, Own.refl _ _, fun j hj => by omega⟩
                case round =>
                  obtain ⟨j, hj, rfl, rfl, hOj, hnj⟩ := hrel
                  have c3 : wr.cell? ⟨xb, 0, none⟩ = some (.slice ra R.length cap) := (hOj.cell (p := ⟨xb, 0, none⟩) hxw (by simp)).trans c2
                  have f4 : wr.cell? ⟨b, o + k * 8 + 2, none⟩ = some (.int .u64 al) := (hOj.cell (p := ⟨b, o + k * 8 + 2, none⟩) hbw (by simp)).trans f3
                  by_cases hjl : j < R.length
                  · obtain ⟨g, rfl, hR⟩ := hrow.out (by omega)
                    obtain ⟨d0, d1, d2⟩ := row3 (hR.own (hOO.out.trans hOj) (by simp)) hjl
                    have hck := hcy.out j hjl
                    have hns : ∀ bq, (!((rAt R j).2.1 == ow) && (rAt R j).1 == al) = bq → bq = false → ∀ q, q < j + 1 → (!((rAt R q).2.1 == ow) && (rAt R q).1 == al) = false := by
                      intro bq h1 h2 q hq
                      by_cases e : q = j
                      · rw [e, h1, h2]
                      · exact hnj q (by omega)
                    generalize rAt R j = x at d0 d1 d2 hck hns
                    obtain ⟨xa, xo, xn⟩ := x
                    simp only at d0 d1 d2 hck hns
                    have p0 : (0 : Int) ≤ j := by omega
                    have p1 : (j : Int) < R.length := by omega
                    replace hOj := Lib.hid hOj
                    replace hck := Lib.hid hck
                    replace hns := Lib.hid hns
                    clear hR hnj d2 c2 f3
                    cases ho : (xo == ow)
                    · have ho1 : (xo.toList != ow.toList) = true := by rw [bne, ← beq_toListBytes, ho]; rfl
                      have ho2 : (xo.toList == ow.toList) = false := by rw [← beq_toListBytes, ho]
                      cases hxa : (xa == al)
                      · replace hns := Lib.hid (hns.out false (by rw [ho, hxa]; rfl) rfl)
                        clear ho
                        go_wp2_with fail
                        go_quiet (fail)
                        go_wp2_with fail
                        go_roundg (R.length - (j + 1))
                        case measure => omega
                        case rel => exact ⟨j + 1, by omega, rfl, by go_num, hOj.out.drewN _, hns.out⟩
                      · have hr16 : r = 16 := by have := hG.out; rw [hck.out ho hxa] at this; simpa using this.symm
                        replace hr16 := Lib.hid hr16
                        clear ho
                        go_wp2_with fail
                        go_quiet (fail)
                        go_wp2_with fail
                        go_ret
                        exact ⟨by rw [hr16.out]; rfl, (hOO.out.trans hOj.out).drewN _⟩
                    · have ho1 : (xo.toList != ow.toList) = false := by rw [bne, ← beq_toListBytes, ho]; rfl
                      have ho2 : (xo.toList == ow.toList) = true := by rw [← beq_toListBytes, ho]
                      replace hns := Lib.hid (hns.out false (by rw [ho]; rfl) rfl)
                      clear ho
                      go_wp2_with fail
                      go_quiet (fail)
                      go_wp2_with fail
                      go_roundg (R.length - (j + 1))
                      case measure => omega
                      case rel => exact ⟨j + 1, by omega, rfl, by go_num, hOj.out.drewN _, hns.out⟩
                  · obtain rfl : j = R.length := by omega
                    have hC : C = false := hcn.out hnj
                    subst hC
                    replace hG : Hid (rGo R ow (L.take (k + 1)) (L.drop (k + 1)) (m + 1) = r) := Lib.hid (by simpa using hG.out)
                    replace hOj := Lib.hid (hOO.out.trans hOj)
                    clear hnj
                    go_wp2_with fail
                    go_roundg (L.length - (k + 1))
                    case measure => omega
                    case rel => exact ⟨k + 1, m + 1, by omega, rfl, by go_num, by go_num, by omega, hOj.out, hG.out⟩
        · obtain rfl : i = L.length := by omega
          rw [List.drop_eq_nil_of_le (Nat.le_refl _)] at hG
          have hG2 : (if 64 < m then (6 : Int) else 0) = r := hG
          replace hO := Lib.hid hO
          clear hG
          by_cases h64 : 64 < m
          · rw [if_pos h64] at hG2
            replace hG2 := Lib.hid hG2
            go_wp2_with fail
            go_ret
            exact ⟨by rw [← hG2.out]; rfl, hO.out⟩
          · rw [if_neg h64] at hG2
            replace hG2 := Lib.hid hG2
            go_wp2_with fail
            go_ret
            exact ⟨by rw [← hG2.out]; rfl, hO.out⟩
end Go.Proofs.YtggcfehghgpjmaaDoor
