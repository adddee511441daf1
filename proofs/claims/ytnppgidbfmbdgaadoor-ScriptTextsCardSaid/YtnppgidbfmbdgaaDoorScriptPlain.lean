/- Scripts (chapter 40), plain: what was printed is parsed as it was; what is parsed is printed as it stood. -/
import Derived.Test.YtnppgidbfmbdgaaDoorScriptParse
namespace Go.Proofs.YtnppgidbfmbdgaaDoor
open Go.RowKit

/-! digits -/
def numL : List UInt8 → Nat → Option Nat
  | [], acc => some acc
  | b :: r, acc => if 48 ≤ b.toNat ∧ b.toNat ≤ 57 then numL r (10 * acc + b.toNat - 48) else none
theorem numF_list (s : ByteArray) : ∀ (k i acc : Nat), i + k = s.size → numF s k i acc = numL (s.data.toList.drop i) acc
  | 0, i, acc, h => by
    rw [List.drop_of_length_le (by rw [← Lib.size_eq]; omega)]
    rfl
  | k + 1, i, acc, h => by
    have hl : i < s.data.toList.length := by rw [← Lib.size_eq]; omega
    rw [List.drop_eq_getElem_cons hl]
    unfold numF numL
    have e : s.get! i = s.data.toList[i] := by rw [get_at s i (by omega)]; rfl
    rw [e, numF_list s k (i + 1) _ (by omega)]
theorem numL_snoc : ∀ (l : List UInt8) (x : UInt8) (acc : Nat), numL (l ++ [x]) acc = (numL l acc).bind fun a => if 48 ≤ x.toNat ∧ x.toNat ≤ 57 then some (10 * a + x.toNat - 48) else none
  | [], x, acc => by simp [numL]
  | b :: r, x, acc => by
    rw [List.cons_append]
    unfold numL
    split
    · exact numL_snoc r x _
    · rfl
theorem digit_nat {n : Nat} (h : n < 10) : (UInt8.ofNat (48 + n)).toNat = 48 + n := by rw [UInt8.toNat_ofNat_of_lt']; show 48 + n < 256; omega
theorem numL_dec : ∀ (n u : Nat), u ≤ n → numL (Lib.decDigits u) 0 = some u
  | n, u, hn => by
    by_cases h : u < 10
    · rw [dec_small h]
      unfold numL
      rw [digit_nat h, if_pos (by omega)]
      unfold numL
      congr 1
      omega
    · rw [dec_big h, numL_snoc]
      match n with
      | 0 => omega
      | n + 1 =>
        rw [numL_dec n (u / 10) (by omega)]
        simp only [Option.bind_some]
        rw [digit_nat (by omega), if_pos (by omega)]
        congr 1
        omega
theorem dec_ne (u : Nat) : Lib.decDigits u ≠ [] := by
  by_cases h : u < 10
  · rw [dec_small h]; simp
  · rw [dec_big h]; simp
theorem dec_head : ∀ (n u : Nat), u ≤ n → 1 ≤ u → ∃ b r, Lib.decDigits u = b :: r ∧ b.toNat ≠ 48
  | n, u, hn, h1 => by
    by_cases h : u < 10
    · rw [dec_small h]
      exact ⟨_, [], rfl, by rw [digit_nat h]; omega⟩
    · rw [dec_big h]
      match n with
      | 0 => omega
      | n + 1 =>
        obtain ⟨b, r, e, hb⟩ := dec_head n (u / 10) (by omega) (by omega)
        exact ⟨b, r ++ [UInt8.ofNat (48 + u % 10)], by rw [e]; rfl, hb⟩
theorem dec_digits (n u : Nat) (hn : u ≤ n) : ∀ b ∈ Lib.decDigits u, 48 ≤ b.toNat ∧ b.toNat ≤ 57 := by
  induction n generalizing u with
  | zero =>
    intro b hb
    rw [dec_small (by omega)] at hb
    simp at hb
    subst hb
    obtain rfl : u = 0 := by omega
    decide
  | succ n ih =>
    intro b hb
    by_cases h : u < 10
    · rw [dec_small h] at hb
      simp only [List.mem_singleton] at hb
      subst hb
      rw [digit_nat h]; omega
    · rw [dec_big h] at hb
      rcases List.mem_append.1 hb with hb | hb
      · exact ih (u / 10) (by omega) b hb
      · simp only [List.mem_singleton] at hb
        subst hb
        rw [digit_nat (by omega)]; omega
theorem rev_ind {P : List UInt8 → Prop} (h0 : P []) (h1 : ∀ l x, P l → P (l ++ [x])) (l : List UInt8) : P l := by
  have : ∀ r : List UInt8, P r.reverse := fun r => by
    induction r with
    | nil => exact h0
    | cons x r ih => rw [List.reverse_cons]; exact h1 _ _ ih
  have h := this l.reverse
  rwa [List.reverse_reverse] at h
/-- A number's word is just the one. -/
theorem dec_back (l : List UInt8) : ∀ n : Nat, numL l 0 = some n → l ≠ [] → (l.head? = some 48 → l.length = 1) → Lib.decDigits n = l := by
  refine rev_ind (P := fun l => ∀ n : Nat, numL l 0 = some n → l ≠ [] → (l.head? = some 48 → l.length = 1) → Lib.decDigits n = l) (fun _ _ h => absurd rfl h) (fun l x ih n hn _ hd => ?_) l
  rw [numL_snoc] at hn
  obtain ⟨a, ha, hx⟩ := Option.bind_eq_some_iff.1 hn
  split at hx
  · rename_i hb
    have hx := Option.some.inj hx
    have hxe : UInt8.ofNat (48 + (x.toNat - 48)) = x := by
      rw [show 48 + (x.toNat - 48) = x.toNat by omega]
      exact UInt8.ofNat_toNat
    cases hl : l with
    | nil =>
      subst hl
      simp [numL] at ha
      subst ha
      have hlt : n < 10 := by omega
      rw [dec_small hlt, show n = x.toNat - 48 by omega, hxe]
      rfl
    | cons b r =>
      have ha1 : Lib.decDigits a = l := by
        refine ih a ha (by rw [hl]; simp) (fun h => ?_)
        have := hd (by rw [hl] at h ⊢; simpa using h)
        rw [hl] at this
        simp at this
      have hap : 1 ≤ a := by
        rcases Nat.eq_zero_or_pos a with h | h
        · exfalso
          subst h
          have h48 : l = [48] := by rw [← ha1, dec_small (by omega)]; rfl
          have := hd (by rw [h48]; rfl)
          rw [h48] at this
          simp at this
        · exact h
      have hbig : ¬ n < 10 := by omega
      rw [dec_big hbig, show n / 10 = a by omega, ha1, show n % 10 = x.toNat - 48 by omega, hxe, hl]
  · cases hx
theorem scDec_list (m : Nat) : (scDec (m : Int)).data.toList = Lib.decDigits m := by unfold scDec; simp
theorem scNum_list (s : ByteArray) : scNum s = if s.data.toList.length < 1 ∨ 10 < s.data.toList.length ∨ (s.data.toList.head? = some 48 ∧ 1 < s.data.toList.length) then none else match numL s.data.toList 0 with
    | some n => if n ≤ 1073741824 then some n else none
    | none => none := by
  unfold scNum
  rw [numF_list s s.size 0 0 (by omega), List.drop_zero, ← Lib.size_eq]
  have e : (s.size < 1 ∨ 10 < s.size ∨ ((s.get! 0).toNat = 48 ∧ 1 < s.size)) ↔ (s.size < 1 ∨ 10 < s.size ∨ (s.data.toList.head? = some 48 ∧ 1 < s.size)) := by
    constructor
    · rintro (h | h | ⟨h, h'⟩)
      · exact .inl h
      · exact .inr (.inl h)
      · refine .inr (.inr ⟨?_, h'⟩)
        have hl : 0 < s.data.toList.length := by rw [← Lib.size_eq]; omega
        rw [List.head?_eq_getElem?, List.getElem?_eq_getElem hl]
        rw [get_at s 0 (by omega)] at h
        congr 1
        exact UInt8.toNat_inj.1 h
    · rintro (h | h | ⟨h, h'⟩)
      · exact .inl h
      · exact .inr (.inl h)
      · refine .inr (.inr ⟨?_, h'⟩)
        have hl : 0 < s.data.toList.length := by rw [← Lib.size_eq]; omega
        rw [List.head?_eq_getElem?, List.getElem?_eq_getElem hl] at h
        rw [get_at s 0 (by omega)]
        have := Option.some.inj h
        show (s.data.toList[0]).toNat = 48
        rw [this]; rfl
  by_cases h : s.size < 1 ∨ 10 < s.size ∨ ((s.get! 0).toNat = 48 ∧ 1 < s.size)
  · rw [if_pos h, if_pos (e.1 h)]
  · rw [if_neg h, if_neg (fun h' => h (e.2 h'))]
    rfl
theorem scNum_dec {m : Int} (h0 : 0 ≤ m) (h1 : m ≤ 1073741824) : scNum (scDec m) = some m.toNat := by
  obtain ⟨u, rfl⟩ := Int.eq_ofNat_of_zero_le h0
  rw [scNum_list, scDec_list]
  have hlen : (Lib.decDigits u).length ≤ 10 := by rw [Lib.decDigits_length]; exact nDigits_10 (by omega)
  have hne := dec_ne u
  rw [if_neg, numL_dec u u (Nat.le_refl _)]
  · simp; omega
  · rintro (h | h | ⟨h, h'⟩)
    · have := List.length_pos_iff.2 hne; omega
    · omega
    · by_cases hu : u < 10
      · rw [dec_small hu] at h'; simp at h'
      · obtain ⟨b, r, e, hb⟩ := dec_head u u (Nat.le_refl _) (by omega)
        rw [e] at h
        simp at h
        rw [h] at hb
        exact hb rfl
theorem scNum_back {s : ByteArray} {n : Nat} (h : scNum s = some n) : s = scDec n ∧ n ≤ 1073741824 := by
  rw [scNum_list] at h
  split at h
  · cases h
  · rename_i hc
    split at h
    · rename_i x hx
      split at h
      · rename_i hle
        cases h
        refine ⟨?_, hle⟩
        apply ByteArray.ext
        apply Array.ext'
        rw [scDec_list]
        refine (dec_back _ n hx (fun e => hc (.inl (by rw [e]; simp))) (fun hh => ?_)).symm
        have h1 : ¬ s.data.toList.length < 1 := fun h => hc (.inl h)
        have h2 : ¬ 1 < s.data.toList.length := fun h => hc (.inr (.inr ⟨hh, h⟩))
        omega
      · cases h
    · cases h

/-! hex -/
def hexP : List UInt8 → Option (List UInt8)
  | a :: b :: r => if scHalf a.toNat < 0 ∨ scHalf b.toNat < 0 then none else (hexP r).map fun l => UInt8.ofNat (16 * scHalf a.toNat + scHalf b.toNat).toNat :: l
  | _ => some []
theorem rawF_list (s : ByteArray) : ∀ (k i : Nat), i + 2 * k = s.size → rawF s k i = hexP (s.data.toList.drop i)
  | 0, i, h => by
    rw [List.drop_of_length_le (by rw [← Lib.size_eq]; omega)]
    rfl
  | k + 1, i, h => by
    have hl : i < s.data.toList.length := by rw [← Lib.size_eq]; omega
    have hl2 : i + 1 < s.data.toList.length := by rw [← Lib.size_eq]; omega
    rw [List.drop_eq_getElem_cons hl, List.drop_eq_getElem_cons hl2]
    unfold rawF hexP halfAt
    have e : s.get! i = s.data.toList[i] := by rw [get_at s i (by omega)]; rfl
    have e2 : s.get! (i + 1) = s.data.toList[i + 1] := by rw [get_at s (i + 1) (by omega)]; rfl
    rw [e, e2, rawF_list s k (i + 2) (by omega)]
theorem half_hex : ∀ q : Fin 16, scHalf ((hexD q.val).toNat : Int) = q.val := by decide +kernel
theorem hex_half : ∀ c : Fin 256, 0 ≤ scHalf (c.val : Int) → hexD (scHalf (c.val : Int)).toNat = UInt8.ofNat c.val := by decide +kernel
theorem half_hex' (q : Nat) (h : q < 16) : scHalf ((hexD q).toNat : Int) = q := half_hex ⟨q, h⟩
theorem hex_half' (b : UInt8) (h : 0 ≤ scHalf (b.toNat : Int)) : hexD (scHalf (b.toNat : Int)).toNat = b := by
  have := hex_half ⟨b.toNat, b.toNat_lt⟩ h
  simpa using this
theorem hexP_hexL : ∀ l : List UInt8, hexP (hexL l) = some l
  | [] => rfl
  | b :: r => by
    have e : hexL (b :: r) = hexD (b.toNat / 16) :: hexD (b.toNat % 16) :: hexL r := rfl
    have hb := b.toNat_lt
    rw [e]
    unfold hexP
    rw [half_hex' _ (by omega), half_hex' _ (by omega), if_neg (by omega), hexP_hexL r]
    simp only [Option.map_some]
    congr 2
    rw [show (16 * ((b.toNat / 16 : Nat) : Int) + ((b.toNat % 16 : Nat) : Int)).toNat = b.toNat by omega]
    exact UInt8.ofNat_toNat
theorem hexL_hexP : ∀ (n : Nat) (l d : List UInt8), l.length = 2 * n → hexP l = some d → hexL d = l
  | 0, l, d, hl, h => by
    have : l = [] := List.eq_nil_of_length_eq_zero (by omega)
    subst this
    cases h
    rfl
  | n + 1, a :: b :: r, d, hl, h => by
    unfold hexP at h
    split at h
    · cases h
    · rename_i hc
      have ha : 0 ≤ scHalf (a.toNat : Int) := by omega
      have hb : 0 ≤ scHalf (b.toNat : Int) := by omega
      have ha2 := (scHalf_bd (a.toNat : Int)).2
      have hb2 := (scHalf_bd (b.toNat : Int)).2
      obtain ⟨d', hd', rfl⟩ := Option.map_eq_some_iff.1 h
      have ih := hexL_hexP n r d' (by simp at hl; omega) hd'
      have hx : (16 * scHalf (a.toNat : Int) + scHalf (b.toNat : Int)).toNat < 256 := by omega
      show hexD _ :: hexD _ :: hexL d' = _
      rw [UInt8.toNat_ofNat_of_lt' hx, ih, show (16 * scHalf (a.toNat : Int) + scHalf (b.toNat : Int)).toNat / 16 = (scHalf (a.toNat : Int)).toNat by omega,
        show (16 * scHalf (a.toNat : Int) + scHalf (b.toNat : Int)).toNat % 16 = (scHalf (b.toNat : Int)).toNat by omega, hex_half' a ha, hex_half' b hb]
  | n + 1, [], d, hl, h => by simp at hl
  | n + 1, [_], d, hl, h => by simp at hl; omega
theorem scRaw_bytes (d : ByteArray) : scRaw (scBytes d) = some d.data.toList := by
  unfold scBytes
  by_cases hz : d.size = 0
  · rw [if_pos hz]
    have : d.data.toList = [] := List.eq_nil_of_length_eq_zero (by rw [← Lib.size_eq]; exact hz)
    rw [this]
    unfold scRaw
    rw [if_pos (by rw [Lib.toList_data])]
  · rw [if_neg hz]
    have hl : (hexL d.data.toList).length = 2 * d.size := by rw [hexL_len, ← Lib.size_eq]
    have hsz : (⟨(hexL d.data.toList).toArray⟩ : ByteArray).size = 2 * d.size := by rw [Lib.size_eq]; simpa using hl
    unfold scRaw
    rw [if_neg, if_neg, hsz, show 2 * d.size / 2 = d.size by omega, rawF_list _ _ 0 (by rw [hsz]; omega), List.drop_zero]
    · exact hexP_hexL _
    · rw [hsz]; omega
    · rw [Lib.toList_data]
      intro e
      have e : hexL d.data.toList = [45] := by simpa using e
      rw [e] at hl
      simp at hl
      omega
theorem scRaw_back {s : ByteArray} {d : List UInt8} (h : scRaw s = some d) : scBytes ⟨d.toArray⟩ = s := by
  unfold scRaw at h
  split at h
  · rename_i e
    cases h
    have : (⟨([] : List UInt8).toArray⟩ : ByteArray).size = 0 := rfl
    unfold scBytes
    rw [if_pos this]
    rw [Lib.toList_data] at e
    apply ByteArray.ext
    apply Array.ext'
    rw [e]
  · split at h
    · cases h
    · rename_i e1 e2
      have h0 : s.size ≠ 0 := fun e => e2 (.inl e)
      have h1 : s.size % 2 = 0 := by
        rcases Nat.eq_zero_or_pos (s.size % 2) with h | h
        · exact h
        · exact absurd (.inr (by omega)) e2
      rw [rawF_list s _ 0 (by omega), List.drop_zero] at h
      have hl := hexL_hexP (s.size / 2) s.data.toList d (by rw [← Lib.size_eq]; omega) h
      have hd : (⟨d.toArray⟩ : ByteArray).size ≠ 0 := by
        rw [Lib.size_eq]
        intro e
        have : d = [] := List.eq_nil_of_length_eq_zero (by simpa using e)
        rw [this] at hl
        apply h0
        rw [Lib.size_eq, ← hl]
        rfl
      unfold scBytes
      rw [if_neg hd]
      apply ByteArray.ext
      apply Array.ext'
      simpa using hl

/-! lines -/
theorem hexD_no : ∀ q : Fin 16, hexD q.val ≠ 32 := by decide +kernel
theorem hexL_no (l : List UInt8) : (32 : UInt8) ∉ hexL l := by
  induction l with
  | nil => simp [hexL]
  | cons b r ih =>
    have e : hexL (b :: r) = hexD (b.toNat / 16) :: hexD (b.toNat % 16) :: hexL r := rfl
    have hb := b.toNat_lt
    rw [e]
    simp only [List.mem_cons, not_or]
    exact ⟨fun h => hexD_no ⟨b.toNat / 16, by omega⟩ h.symm, fun h => hexD_no ⟨b.toNat % 16, by omega⟩ h.symm, ih⟩
theorem bytes_no (d : ByteArray) : (32 : UInt8) ∉ (scBytes d).data.toList := by
  unfold scBytes
  split
  · decide
  · simpa using hexL_no d.data.toList
theorem dec_no (m : Int) : (32 : UInt8) ∉ (scDec m).data.toList := by
  unfold scDec
  intro h
  have := dec_digits m.toNat m.toNat (Nat.le_refl _) 32 (by simpa using h)
  exact absurd this.1 (by decide)
theorem word_no (k : Int) : (32 : UInt8) ∉ (scWord k).data.toList := by
  unfold scWord
  split
  · decide
  split
  · decide
  split
  · decide
  split
  · decide
  split
  · decide
  · decide
theorem head_list (k m : Int) : (scHead k m).data.toList = (scWord k).data.toList ++ 32 :: (scDec m).data.toList := by
  unfold scHead
  rw [ByteArray.data_append, ByteArray.data_append]
  simp
theorem line_list (k m : Int) (d : ByteArray) : (scLine k m d).data.toList = if k = 1 then (scWord k).data.toList ++ 32 :: ((scDec m).data.toList ++ 32 :: (scBytes d).data.toList) else (scWord k).data.toList ++ 32 :: (scDec m).data.toList := by
  unfold scLine
  split
  · rw [ByteArray.data_append, ByteArray.data_append]
    simp only [Array.toList_append]
    rw [head_list]
    simp
  · exact head_list k m
theorem line_parts (k m : Int) (d : ByteArray) : splB 32 (scLine k m d) = if k = 1 then [scWord k, scDec m, scBytes d] else [scWord k, scDec m] := by
  unfold splB
  rw [line_list]
  split
  · rw [spl_cut _ (word_no k), spl_cut _ (dec_no m), spl_no (bytes_no d)]
    rfl
  · rw [spl_cut _ (word_no k), spl_no (dec_no m)]
    rfl
/-- What an event's line tells of it. -/
def scWant (k c n : Int) (d : ByteArray) : Ev := if k = 3 then ⟨3, 0, n, ⟨#[]⟩⟩ else if k = 1 then ⟨1, c, 0, d⟩ else ⟨k, c, 0, ⟨#[]⟩⟩
theorem parse_print {k c n : Int} {d line : ByteArray} (h : scPrint k c n d = (line, 0)) : scParse line = (scWant k c n d, 0) := by
  unfold scPrint at h
  split at h
  · simp at h
  rename_i hk
  split at h
  · simp at h
  rename_i hm
  split at h
  · simp at h
  rename_i hs
  have hk' : 0 ≤ k ∧ k ≤ 4 := by simpa using hk
  have hl : scLine k (scM k c n) d = line := by simpa using h
  subst hl
  have hsz : ¬ 32768 < (scLine k (scM k c n) d).size := fun h => hs (.inr h)
  have hm0 : 0 ≤ scM k c n := by omega
  have hm1 : scM k c n ≤ 1073741824 := by omega
  have hnum := scNum_dec hm0 hm1
  have hmn : ((scM k c n).toNat : Int) = scM k c n := by omega
  unfold scParse
  rw [if_neg hsz, line_parts]
  by_cases h1 : k = 1
  · rw [if_pos h1, scParts_hit (k := k) (x := scWant k c n d) hk' rfl]
    unfold scFill
    rw [if_pos h1]
    simp only [hnum, scRaw_bytes, hmn]
    unfold scWant scM
    rw [if_neg (by omega), if_neg (by omega), if_pos h1]
  · rw [if_neg h1, scParts_hit (k := k) (x := scWant k c n d) hk' rfl]
    unfold scFill
    rw [if_neg h1]
    simp only [hnum, hmn]
    unfold scWant scM
    by_cases h3 : k = 3
    · rw [if_pos h3, if_pos h3, if_pos h3, h3]
    · rw [if_neg h3, if_neg h3, if_neg h3, if_neg h1]
theorem parts_join {s : ByteArray} {l : List ByteArray} (h : splB 32 s = l) : s.data.toList = joinL 32 (l.map (·.data.toList)) := by
  rw [← h]
  unfold splB
  rw [List.map_map]
  have : ((fun x : ByteArray => x.data.toList) ∘ fun l : List UInt8 => (⟨l.toArray⟩ : ByteArray)) = id := by funext l; simp
  rw [this, List.map_id, joinL_spl]
theorem print_parse {line : ByteArray} {y : Ev} (h : scParse line = (y, 0)) : scPrint y.k y.c y.n y.d = (line, 0) := by
  unfold scParse at h
  split at h
  · simp at h
  rename_i hsz
  split at h
  · rename_i e he
    have hye : e = y := by simpa using h
    subst hye
    cases hl : splB 32 line with
    | nil => rw [hl] at he; simp [scParts] at he
    | cons a r =>
      rw [hl] at he
      have hj := parts_join hl
      unfold scParts at he
      cases hk : scKind a with
      | none => simp only [hk] at he; cases he
      | some k =>
        simp only [hk] at he
        obtain ⟨hk', rfl⟩ := scKind_some hk
        unfold scFill at he
        split at he
        · rename_i h1
          subst h1
          split at he
          · rename_i b c
            split at he
            · rename_i n d hn hd
              cases he
              obtain ⟨rfl, hn1⟩ := scNum_back hn
              have hc := scRaw_back hd
              have hline : scLine 1 n ⟨d.toArray⟩ = line := by
                apply ByteArray.ext
                apply Array.ext'
                rw [line_list, if_pos rfl, hj, hc]
                rfl
              have hds : (⟨d.toArray⟩ : ByteArray).size ≤ 32768 := by
                have h5 : (scBytes ⟨d.toArray⟩).size ≤ line.size := by
                  rw [← hline, Lib.size_eq (scLine _ _ _), line_list, if_pos rfl, Lib.size_eq]
                  simp; omega
                have h6 : (⟨d.toArray⟩ : ByteArray).size ≤ (scBytes ⟨d.toArray⟩).size := by
                  unfold scBytes
                  split
                  · omega
                  · have := hexL_len (⟨d.toArray⟩ : ByteArray).data.toList
                    rw [Lib.size_eq (⟨(hexL _).toArray⟩ : ByteArray)]
                    rw [Lib.size_eq]
                    simp at this ⊢
                    omega
                omega
              show scPrint 1 n 0 ⟨d.toArray⟩ = _
              unfold scPrint scM
              rw [if_neg (by simp), if_neg (show ¬ (1 : Int) = 3 by omega), if_neg (by omega), hline, if_neg (by omega)]
            · cases he
          · cases he
        · rename_i h1
          split at he
          · rename_i b
            split at he
            · rename_i n hn
              obtain ⟨rfl, hn1⟩ := scNum_back hn
              have hline : ∀ d, scLine k n d = line := fun d => by
                apply ByteArray.ext
                apply Array.ext'
                rw [line_list, if_neg h1, hj]
                rfl
              by_cases h3 : k = 3
              · rw [if_pos h3] at he
                cases he
                show scPrint k 0 n ⟨#[]⟩ = _
                have hz : (⟨#[]⟩ : ByteArray).size = 0 := rfl
                unfold scPrint scM
                rw [if_neg (by simpa using hk'), if_pos h3, if_neg (by omega), hline, if_neg (by omega)]
              · rw [if_neg h3] at he
                cases he
                show scPrint k n 0 ⟨#[]⟩ = _
                have hz : (⟨#[]⟩ : ByteArray).size = 0 := rfl
                unfold scPrint scM
                rw [if_neg (by simpa using hk'), if_neg h3, if_neg (by omega), hline, if_neg (by omega)]
            · cases he
          · cases he
  · simp at h
end Go.Proofs.YtnppgidbfmbdgaaDoor
