/- What FnExactReadFate comes to on plain values: true. -/
import Derived.Test.YtpioljlgmhehhaaDoorFnFnExactReadFate
set_option linter.unusedSimpArgs false
set_option linter.unusedVariables false
set_option maxRecDepth 100000
namespace Go.Proofs.YtpioljlgmhehhaaDoor.Wm
open Go
namespace FnExactReadFate
theorem impl_inRange_eq {a b c : Int} : impl_inRange a b c = decide (b ≤ a ∧ a ≤ c) := by
  simp only [impl_inRange, impl_inRange_u1, decide_eq_true_eq]
  by_cases h1 : b ≤ a <;> by_cases h2 : a ≤ c <;> simp [h1, h2]
def firstL : List Int → Int
  | [] => 0
  | x :: l => if x ≠ 0 then x else firstL l
theorem firstL_skip : ∀ {i : Nat} {l : List Int}, (∀ j x, j < i → l[j]? = some x → x = 0) → firstL l = firstL (l.drop i)
  | 0, l, h => by simp
  | i + 1, [], h => by simp
  | i + 1, x :: l, h => by
    have := h 0 x (by omega) rfl
    subst this
    simp only [firstL, ne_eq, not_true, if_false, List.drop_succ_cons]
    exact firstL_skip fun j x hj hx => h (j + 1) x (by omega) (by simpa using hx)
theorem impl_first_eq {l : List Int} (hl : (l.length : Int) ≤ maxI) : impl_first l = some (firstL l) := by
  unfold maxI at hl
  unfold impl_first
  obtain ⟨t, h1, h2⟩ := loop_rule (step := impl_first_s1 l (l.length : Int)) (fun i s => s = (i : Int) ∧ ∀ j x, j < i → l[j]? = some x → x = 0)
      (fun t => (t = .inl () ∧ firstL l = 0) ∨ (t = .inr (firstL l))) l.length (by
    rintro i s hi ⟨rfl, hj⟩
    simp only [impl_first_s1, decide_eq_true_eq]
    rcases Nat.lt_or_ge i l.length with h | h
    · obtain ⟨x, hx, hm⟩ := get_lt h
      rw [if_pos (by omega), getI_nat, hx, w64 (by omega)]
      simp only [Option.bind_some, bne_iff_ne, ne_eq]
      by_cases hp : x = 0
      · left
        rw [if_neg (by simp [hp])]
        refine ⟨h, _, rfl, by simp, fun j y hj' hy => ?_⟩
        rcases Nat.lt_or_ge j i with hji | hji
        · exact hj j y hji hy
        · obtain rfl : j = i := by omega
          rw [hx] at hy; obtain rfl := Option.some.inj hy; exact hp
      · right
        rw [if_pos hp]
        refine ⟨_, rfl, .inr ?_⟩
        rw [firstL_skip hj, List.drop_eq_getElem_cons h, firstL]
        have : l[i] = x := by rw [List.getElem?_eq_getElem h] at hx; exact Option.some.inj hx
        rw [this, if_pos hp]
    · right
      rw [if_neg (by omega)]
      refine ⟨_, rfl, .inl ⟨rfl, ?_⟩⟩
      rw [firstL_skip hj, List.drop_eq_nil_of_le h]; rfl) (s := 0) ⟨rfl, fun j x hj => by omega⟩
  rw [h1]
  rcases h2 with ⟨rfl, h⟩ | rfl
  · simp [h]
  · simp
theorem impl_codeIf_eq {b : Bool} {c : Int} : impl_codeIf b c = if b = true then c else 0 := rfl
theorem spec_l1In_eq {a b c : Int} : spec_l1In a b c = decide (b ≤ a ∧ a ≤ c) := by
  simp only [spec_l1In, spec_l1In_u1, decide_eq_true_eq]
  by_cases h1 : b ≤ a <;> by_cases h2 : a ≤ c <;> simp [h1, h2]
theorem fate_same {f : SFate} : impl_FateFault f = some (spec_FateFault f) := by
  obtain ⟨k, d, a, b⟩ := f
  have hf : ∀ a b : Int, impl_first [a, b] = some (firstL [a, b]) := fun a b => impl_first_eq (by simp [maxI])
  unfold impl_FateFault impl_FateFault_u1 impl_FateFault_u2 impl_FateFault_u3 spec_FateFault spec_FateFault_u1 spec_FateFault_u2
  simp only [hf, impl_codeIf_eq, impl_inRange_eq, spec_l1In_eq, Option.bind_some, firstL]
  by_cases h3 : k = 3
  · subst h3
    by_cases h5 : 0 ≤ d ∧ d ≤ 6 <;> by_cases h6 : 0 ≤ a ∧ a ≤ 1279 <;> by_cases h7 : 1 ≤ b ∧ b ≤ 65535 <;> simp [h5, h6, h7]
  · by_cases h0 : k = 0
    · subst h0
      by_cases h5 : 0 ≤ d ∧ d ≤ 6 <;> by_cases h6 : a = 0 <;> by_cases h7 : b = 0 <;> by_cases h8 : d = 0 <;> simp [h5, h6, h7, h8]
    · by_cases h1 : 0 ≤ k ∧ k ≤ 3 <;> by_cases h5 : 0 ≤ d ∧ d ≤ 6 <;> by_cases h6 : a = 0 <;> by_cases h7 : b = 0 <;> simp [h0, h1, h3, h5, h6, h7]
theorem fate_ok {f : SFate} (h : spec_FateFault f = 0) : (0 ≤ f.Kind ∧ f.Kind ≤ 3) ∧ (0 ≤ f.Delay ∧ f.Delay ≤ 6) ∧ (f.Kind = 3 → (0 ≤ f.At ∧ f.At ≤ 1279) ∧ 1 ≤ f.Bits ∧ f.Bits ≤ 65535) := by
  obtain ⟨k, d, a, b⟩ := f
  unfold spec_FateFault spec_FateFault_u1 spec_FateFault_u2 at h
  simp only [spec_l1In_eq] at h
  simp only
  by_cases h1 : 0 ≤ k ∧ k ≤ 3
  · by_cases h5 : 0 ≤ d ∧ d ≤ 6
    · refine ⟨h1, h5, fun h3 => ?_⟩
      subst h3
      by_cases h6 : 0 ≤ a ∧ a ≤ 1279 <;> by_cases h7 : 1 ≤ b ∧ b ≤ 65535 <;> simp [h5, h6, h7] at h
      exact ⟨h6, h7⟩
    · exfalso
      simp only [decide_eq_true h1, decide_eq_false h5, if_true] at h
      revert h
      simp only [Bool.false_eq_true, if_false, if_true]
      generalize (if (k == 0) = true then _ else _ : Bool × Bool) = q
      cases q.2 <;> simp
  · exfalso
    simp [h1] at h
theorem dec_len : ∀ u : Nat, (Lib.decDigits u).length ≤ u + 1 := by
  intro u
  induction u using Nat.strongRecOn with
  | ind u ih =>
    rw [Lib.decDigits]
    split
    · simp
    · rename_i h
      have := ih (u / 10) (by omega)
      simp only [List.length_append, List.length_cons, List.length_nil]; omega
theorem digits_eq : ∀ (k : Nat) (n : Nat), n < 10 ^ (k + 1) → n ≤ 1000000000 → spec_l1Digits (k + 1) (n : Int) = some (Lib.decDigits n)
  | k, n, h, hs => by
    rw [spec_l1Digits, Lib.decDigits]
    unfold spec_l1Digits_b spec_l1Digits_u1
    rw [if_neg (by simp)]
    by_cases h1 : n < 10
    · rw [if_pos (by simp; omega), dif_pos h1, w64 (by omega), wu8 (by omega), bytesI_eq]
      simp only [Option.bind_some, List.map_cons, List.map_nil]
      congr 3
    · rw [if_neg (by simp; omega), dif_neg h1]
      have e1 : IntKind.i64.wrap ((n : Int).tdiv 10) = ((n / 10 : Nat) : Int) := by rw [Int.tdiv_eq_ediv_of_nonneg (by omega), w64 (by omega)]; omega
      have e2 : (n : Int).tmod 10 = ((n % 10 : Nat) : Int) := by rw [Int.tmod_eq_emod_of_nonneg (by omega)]; omega
      have hl := dec_len (n / 10)
      obtain ⟨j, rfl⟩ : ∃ j, k = j + 1 := by
        cases k with
        | zero => exact absurd (by simpa using h) h1
        | succ j => exact ⟨j, rfl⟩
      rw [e1, e2, digits_eq j (n / 10) (by rw [Nat.pow_succ] at h; omega) (by omega), w64 (by omega), wu8 (by omega), bytesI_eq]
      simp only [Option.bind_some, List.map_cons, List.map_nil]
      rw [if_pos (by simp; omega)]
      congr 4
def isD (c : UInt8) : Bool := decide (48 ≤ c.toNat ∧ c.toNat ≤ 57)
def valD (a : Nat) (l : List UInt8) : Nat := l.foldl (fun a c => a * 10 + (c.toNat - 48)) a
theorem valD_nil {a : Nat} : valD a [] = a := rfl
theorem valD_cons {a : Nat} {c : UInt8} {l : List UInt8} : valD a (c :: l) = valD (a * 10 + (c.toNat - 48)) l := by simp only [valD, List.foldl_cons]
theorem valD_app (l : List UInt8) (a : Nat) (c : UInt8) : valD a (l ++ [c]) = valD a l * 10 + (c.toNat - 48) := by
  simp only [valD, List.foldl_append, List.foldl_cons, List.foldl_nil]
theorem ofNat_dig {n : Nat} (h : n < 10) : (UInt8.ofNat (48 + n)).toNat = 48 + n := by
  rw [UInt8.toNat_ofNat']; omega
theorem dec_dig : ∀ u : Nat, (Lib.decDigits u).all isD = true := by
  intro u
  induction u using Nat.strongRecOn with
  | ind u ih =>
    rw [Lib.decDigits]
    split
    · rename_i h
      simp only [List.all_cons, List.all_nil, Bool.and_true, isD, ofNat_dig h]
      exact decide_eq_true (by omega)
    · rename_i h
      simp only [List.all_append, ih (u / 10) (by omega), Bool.true_and, List.all_cons, List.all_nil, Bool.and_true, isD, ofNat_dig (show u % 10 < 10 by omega)]
      exact decide_eq_true (by omega)
theorem dec_val : ∀ u : Nat, valD 0 (Lib.decDigits u) = u := by
  intro u
  induction u using Nat.strongRecOn with
  | ind u ih =>
    rw [Lib.decDigits]
    split
    · rename_i h
      rw [valD_cons, valD_nil, ofNat_dig h]; omega
    · rename_i h
      rw [valD_app, ih (u / 10) (by omega), ofNat_dig (show u % 10 < 10 by omega)]; omega
theorem isD_iff {c : UInt8} : isD c = true ↔ 48 ≤ c.toNat ∧ c.toNat ≤ 57 := by simp [isD]
theorem valD_lt : ∀ (l : List UInt8) (a k : Nat), a + 1 ≤ 10 ^ k → l.all isD = true → valD a l + 1 ≤ 10 ^ (k + l.length)
  | [], a, k, h, _ => by rw [valD_nil]; exact h
  | c :: l, a, k, h, hd => by
    simp only [List.all_cons, Bool.and_eq_true, isD_iff] at hd
    have := valD_lt l (a * 10 + (c.toNat - 48)) (k + 1) (by rw [Nat.pow_succ]; omega) hd.2
    rw [List.length_cons, show k + (l.length + 1) = k + 1 + l.length by omega, valD_cons]
    exact this
theorem ten7 : ∀ {k : Nat}, k ≤ 7 → 10 ^ k ≤ 10000000 := by
  intro k hk
  have : 10 ^ k ≤ 10 ^ 7 := Nat.pow_le_pow_right (by omega) hk
  omega
theorem parse_small : ∀ (l : List UInt8) (a k : Nat), a + 1 ≤ 10 ^ k → k + l.length ≤ 7 → l.all isD = true → Lib.parseUintM (2 ^ 64 - 1) a l = .ok (valD a l)
  | [], a, k, h, _, _ => rfl
  | c :: l, a, k, h, hk, hd => by
    simp only [List.all_cons, Bool.and_eq_true, isD_iff] at hd
    simp only [List.length_cons] at hk
    have h7 := ten7 (k := k) (by omega)
    have ih := parse_small l (a * 10 + (c.toNat - 48)) (k + 1) (by rw [Nat.pow_succ]; omega) (by omega) hd.2
    rw [Lib.parseUintM, if_pos hd.1, if_neg (by omega), if_neg (by omega), ih, valD_cons]
def sgn (neg : Bool) (u : Nat) : Int := if neg = true then -(u : Int) else u
theorem digitsI {v : Int} (h : -9999999 ≤ v ∧ v ≤ 9999999) : spec_l1Digits 64 v = some (Lib.itoa v) := by
  by_cases hv : v < 0
  · rw [spec_l1Digits]
    unfold spec_l1Digits_b
    rw [if_pos (by simpa using hv), w64 (by omega)]
    have e : (0 : Int) - v = ((v.natAbs : Nat) : Int) := by omega
    have hl := dec_len v.natAbs
    rw [e, digits_eq 62 v.natAbs (Nat.lt_of_le_of_lt (show v.natAbs ≤ 9999999 by omega) (by decide)) (by omega)]
    simp only [Option.bind_some]
    rw [if_pos (by simp; omega)]
    unfold Lib.itoa
    rw [if_pos hv]; rfl
  · have := digits_eq 63 v.toNat (Nat.lt_of_le_of_lt (show v.toNat ≤ 9999999 by omega) (by decide)) (by omega)
    rw [Int.toNat_of_nonneg (by omega)] at this
    rw [this]
    unfold Lib.itoa
    rw [if_neg hv]
theorem scan {p : List UInt8} {f : Int} (hp : p.length ≤ 1048576) : ∀ (rest pre : List UInt8) (acc j : Nat), p = pre ++ rest → acc + 1 ≤ 10 ^ j → j + rest.length ≤ 7 →
    loopO (spec_ReadNumber_s6 64 p f) ((acc : Int), (pre.length : Int)) = some (if rest.all isD = true then .inl (valD acc rest : Int) else .inr ())
  | [], pre, acc, j, e, ha, hj => by
    have hl : p.length = pre.length := by rw [e]; simp
    rw [loopO_eq]
    simp only [spec_ReadNumber_s6, decide_eq_true_eq]
    rw [if_neg (by omega)]
    simp [valD_nil]
  | c :: rest, pre, acc, j, e, ha, hj => by
    have hl : p.length = pre.length + (rest.length + 1) := by rw [e]; simp
    simp only [List.length_cons] at hj
    have h7 := ten7 (k := j) (by omega)
    have hc : p[pre.length]? = some c := by rw [e]; simp
    have hb : c.toNat < 256 := c.toNat_lt
    rw [loopO_eq]
    simp only [spec_ReadNumber_s6, spec_ReadNumber_u5, decide_eq_true_eq, getI_nat, hc, Option.bind_some]
    rw [if_pos (by omega)]
    by_cases hd : 48 ≤ c.toNat ∧ c.toNat ≤ 57
    · have ih := scan (f := f) hp rest (pre ++ [c]) (acc * 10 + (c.toNat - 48)) (j + 1) (by rw [e]; simp) (by rw [Nat.pow_succ]; omega) (by omega)
      rw [if_neg (by omega)]
      simp only [Option.bind_some, decide_eq_true_eq]
      rw [if_neg (by omega), wu8 (by omega), w64 (n := (c.toNat : Int) - 48) (by omega), w64 (n := (acc : Int) * 10) (by omega), w64 (n := (acc : Int) * 10 + ((c.toNat : Int) - 48)) (by omega), w64 (n := (pre.length : Int) + 1) (by omega)]
      have e1 : (acc : Int) * 10 + ((c.toNat : Int) - 48) = ((acc * 10 + (c.toNat - 48) : Nat) : Int) := by omega
      have e2 : (pre.length : Int) + 1 = ((pre ++ [c]).length : Int) := by simp
      rw [e1, e2]
      simp only []
      rw [ih]
      simp only [List.all_cons, isD_iff.2 hd, Bool.true_and, valD_cons]
    · have hf : (c :: rest).all isD = false := by
        simp only [List.all_cons]
        have : isD c = false := by simpa [isD] using hd
        rw [this]; rfl
      rw [hf]
      by_cases h1 : (c.toNat : Int) < 48
      · rw [if_pos h1]
        simp
      · rw [if_neg h1]
        have : (c.toNat : Int) > 57 := by omega
        simp [this]
def bodyOf (c : UInt8) (r : List UInt8) : List UInt8 := if c.toNat = 45 then r else c :: r
theorem spec_form {c : UInt8} {r : List UInt8} (hp : (c :: r).length ≤ 1048576) : spec_ReadNumber 64 (c :: r) = some (if 1 ≤ (bodyOf c r).length ∧ (bodyOf c r).length ≤ 7 ∧ (bodyOf c r).all isD = true ∧ Lib.itoa (sgn (decide (c.toNat = 45)) (valD 0 (bodyOf c r))) = c :: r then ⟨0, sgn (decide (c.toNat = 45)) (valD 0 (bodyOf c r))⟩ else ⟨5, 0⟩) := by
  have hlen : (c :: r).length = r.length + 1 := rfl
  have fin : ∀ (f : Int) (pre : List UInt8), f = (if c.toNat = 45 then 1 else 0) → c :: r = pre ++ bodyOf c r → (pre.length : Int) = f → (bodyOf c r).length ≤ 7 → 1 ≤ (bodyOf c r).length →
      ((loopO (spec_ReadNumber_s6 64 (c :: r) f) ((0 : Int), f)).bind fun t => (Sum.elim (fun y42 => let y46 := spec_ReadNumber_u7 64 (c :: r) y42 (f == 1)
      (spec_l1Digits 64 y46).bind fun r47 =>
      if (r47 == (c :: r)) = true then some ((SIntResult.mk 0 y46))
      else some ((SIntResult.mk 5 0)))
     (fun y48 => some ((SIntResult.mk 5 0)))) t) = some (if 1 ≤ (bodyOf c r).length ∧ (bodyOf c r).length ≤ 7 ∧ (bodyOf c r).all isD = true ∧ Lib.itoa (sgn (decide (c.toNat = 45)) (valD 0 (bodyOf c r))) = c :: r then ⟨0, sgn (decide (c.toNat = 45)) (valD 0 (bodyOf c r))⟩ else ⟨5, 0⟩) := by
    intro f pre hf hpre hpl h7 h1
    have := scan (f := f) hp (bodyOf c r) pre 0 0 hpre (by simp) (by omega)
    rw [hpl] at this
    have e0 : ((0 : Nat) : Int) = 0 := rfl
    rw [e0] at this
    rw [this]
    simp only [Option.bind_some]
    cases hd : (bodyOf c r).all isD with
    | false => simp
    | true =>
      have hv := valD_lt (bodyOf c r) 0 0 (by simp) hd
      have ht := ten7 (k := 0 + (bodyOf c r).length) (by omega)
      have hs : spec_ReadNumber_u7 64 (c :: r) (valD 0 (bodyOf c r) : Int) (f == 1) = sgn (decide (c.toNat = 45)) (valD 0 (bodyOf c r)) := by
        unfold spec_ReadNumber_u7 sgn
        by_cases hn : c.toNat = 45
        · rw [if_pos hn] at hf
          subst hf
          rw [if_pos (by rfl), if_pos (by simp [hn]), w64 (by omega)]; omega
        · rw [if_neg hn] at hf
          subst hf
          rw [if_neg (by decide), if_neg (by simp [hn])]
      have hb : -9999999 ≤ sgn (decide (c.toNat = 45)) (valD 0 (bodyOf c r)) ∧ sgn (decide (c.toNat = 45)) (valD 0 (bodyOf c r)) ≤ 9999999 := by
        unfold sgn
        split <;> omega
      simp only [if_true, Sum.elim_inl, hs, digitsI hb, Option.bind_some, h1, h7, true_and, beq_iff_eq]
      split <;> rfl
  unfold spec_ReadNumber spec_ReadNumber_u1 spec_ReadNumber_u2 spec_ReadNumber_u3
  rw [if_pos (decide_eq_true (by omega))]
  have g0 : getI (c :: r) 0 = some c := rfl
  rw [g0]
  simp only [Option.bind_some, decide_eq_true_eq]
  by_cases hn : c.toNat = 45
  · have e1 : ((c.toNat : Int) == 45) = true := by simp; omega
    rw [e1]
    simp only [if_true]
    have hbody : bodyOf c r = r := by unfold bodyOf; rw [if_pos hn]
    rw [w64 (by simp; omega)]
    by_cases ha : ((c :: r).length : Int) - 1 < 1
    · rw [if_pos ha]
      have : ¬ (1 ≤ (bodyOf c r).length) := by rw [hbody]; omega
      simp [this]
    · rw [if_neg ha]
      by_cases hb : ((c :: r).length : Int) - 1 > 7
      · rw [if_pos (by simpa using hb)]
        have : ¬ ((bodyOf c r).length ≤ 7) := by rw [hbody]; omega
        simp [this]
      · rw [if_neg (by simpa using hb)]
        exact fin 1 [c] (by rw [if_pos hn]) (by rw [hbody]; rfl) rfl (by rw [hbody]; omega) (by rw [hbody]; omega)
  · have e1 : ((c.toNat : Int) == 45) = false := by simp; omega
    rw [e1]
    simp only [Bool.false_eq_true, if_false]
    have hbody : bodyOf c r = c :: r := by unfold bodyOf; rw [if_neg hn]
    rw [w64 (by simp; omega)]
    by_cases ha : ((c :: r).length : Int) - 0 < 1
    · omega
    · rw [if_neg ha]
      by_cases hb : ((c :: r).length : Int) - 0 > 7
      · rw [if_pos (by simpa using hb)]
        have : ¬ ((bodyOf c r).length ≤ 7) := by rw [hbody]; omega
        simp [this]
      · rw [if_neg (by simpa using hb)]
        exact fin 0 [] (by rw [if_neg hn]) (by rw [hbody]; rfl) rfl (by rw [hbody]; omega) (by rw [hbody]; omega)
theorem u8_45 {c : UInt8} : c.toNat = 45 ↔ c = 45 := ⟨fun h => UInt8.toNat_inj.1 (by rw [h]; rfl), fun h => by rw [h]; rfl⟩
theorem trim_eq {c : UInt8} {r : List UInt8} (hp : (c :: r).length ≤ 1048576) : strings_TrimPrefix (c :: r) [45] = some (bodyOf c r) := by
  have hl : (c :: r).length = r.length + 1 := rfl
  have s1 : subI (c :: r) 0 (([45] : List UInt8).length : Int) = some [c] := by
    unfold subI cutI
    rw [if_pos (by simp; omega)]; simp
  have s2 : subI (c :: r) (([45] : List UInt8).length : Int) ((c :: r).length : Int) = some r := by
    unfold subI cutI
    rw [if_pos (by simp; omega), if_pos (by simp; omega)]; simp
  unfold strings_TrimPrefix internal_stringslite_TrimPrefix internal_stringslite_HasPrefix internal_stringslite_HasPrefix_u1 bodyOf
  rw [if_pos (decide_eq_true (by simp; omega)), s1, s2]
  simp only [Option.bind_some]
  by_cases h : c.toNat = 45
  · have h' := u8_45.1 h
    subst h'
    simp
  · have h' : ¬ (c = 45) := fun e => h (u8_45.2 e)
    have : ([c] == [(45 : UInt8)]) = false := by simp [h']
    rw [this]
    simp [h]
theorem parse_bound {p : List UInt8} (h : (parseI p).2 = true) : okI64 (parseI p).1 = true := by
  unfold parseI at h ⊢
  rcases hp : Lib.parseIntB 64 p with v | _ | _
  · have := Lib.parseIntB_bounds hp
    simp only
    exact decide_eq_true (by omega)
  · rw [hp] at h; simp at h
  · rw [hp] at h; simp at h
theorem numbers {c : UInt8} {r : List UInt8} {v : Int} (h1 : 1 ≤ (bodyOf c r).length) (h7 : (bodyOf c r).length ≤ 7) (hd : (bodyOf c r).all isD = true) (hv : v = sgn (decide (c.toNat = 45)) (valD 0 (bodyOf c r))) : parseI (c :: r) = (v, true) := by
  have hu : Lib.parseUintB 64 (bodyOf c r) = .ok (valD 0 (bodyOf c r)) := by
    unfold Lib.parseUintB
    rw [if_neg (fun e => by rw [e] at h1; simp at h1)]
    exact parse_small _ 0 0 (by simp) (by omega) hd
  have hlt := valD_lt (bodyOf c r) 0 0 (by simp) hd
  have ht := ten7 (k := 0 + (bodyOf c r).length) (by omega)
  have hp : Lib.parseIntB 64 (c :: r) = .ok v := by
    by_cases h : c.toNat = 45
    · have h' := u8_45.1 h
      subst h'
      have hb : bodyOf 45 r = r := by unfold bodyOf; rw [if_pos h]
      rw [hb] at hu hlt ht hv
      rw [Lib.parseIntB_minus, hu]
      unfold Lib.signedC
      simp only
      rw [if_neg (by omega), hv]
      simp [sgn]
    · have hb : bodyOf c r = c :: r := by unfold bodyOf; rw [if_neg h]
      rw [hb] at hu hlt ht hv hd
      simp only [List.all_cons, Bool.and_eq_true, isD_iff] at hd
      rw [Lib.parseIntB_plain 64 c r (by omega) h, hu]
      unfold Lib.signlessC
      simp only
      rw [if_neg (by omega), hv]
      simp [sgn, h]
  unfold parseI
  rw [hp]
theorem spelled {c : UInt8} {r : List UInt8} {n : Int} (h : Lib.itoa n = c :: r) : 1 ≤ (bodyOf c r).length ∧ (bodyOf c r).all isD = true ∧ sgn (decide (c.toNat = 45)) (valD 0 (bodyOf c r)) = n := by
  have pos : ∀ u, 1 ≤ (Lib.decDigits u).length := fun u => by
    rw [Lib.decDigits]
    split <;> simp
  unfold Lib.itoa at h
  by_cases hn : n < 0
  · rw [if_pos hn] at h
    obtain ⟨rfl, rfl⟩ : 45 = c ∧ Lib.decDigits n.natAbs = r := by simpa using h
    have hb : bodyOf 45 (Lib.decDigits n.natAbs) = Lib.decDigits n.natAbs := by unfold bodyOf; rw [if_pos (show (45 : UInt8).toNat = 45 from rfl)]
    rw [hb, dec_val]
    refine ⟨pos _, dec_dig _, ?_⟩
    have : (decide ((45 : UInt8).toNat = 45)) = true := rfl
    rw [this]
    simp only [sgn, if_true]; omega
  · rw [if_neg hn] at h
    have hd := dec_dig n.toNat
    have hv := dec_val n.toNat
    rw [h] at hd hv
    have hc : ¬ c.toNat = 45 := by
      simp only [List.all_cons, Bool.and_eq_true, isD_iff] at hd
      omega
    have hb : bodyOf c r = c :: r := by unfold bodyOf; rw [if_neg hc]
    rw [hb, hv]
    refine ⟨by simp, hd, ?_⟩
    rw [decide_eq_false hc]
    simp only [sgn, Bool.false_eq_true, if_false]; omega
theorem num_form {c : UInt8} {r : List UInt8} (hp : (c :: r).length ≤ 1048576) : impl_number (c :: r) = some ((parseI (c :: r)).1, decide ((parseI (c :: r)).2 = true ∧ Lib.itoa (parseI (c :: r)).1 = c :: r ∧ (bodyOf c r).length ≤ 7)) := by
  unfold impl_number impl_number_u1 impl_decimal strconv_ParseInt strconv_FormatInt
  rw [if_pos (show okParse (c :: r) 10 64 = true from decide_eq_true ⟨by omega, rfl, rfl⟩)]
  simp only [Option.bind_some]
  cases h2 : (parseI (c :: r)).2 with
  | false => simp
  | true =>
    have hb := parse_bound h2
    simp only [if_true, hb, true_and, Option.bind_some, beq_iff_eq]
    by_cases he : Lib.itoa (parseI (c :: r)).1 = c :: r
    · rw [if_pos he, trim_eq hp]
      simp only [Option.bind_some, he, true_and]
      congr 2
      by_cases hl : (bodyOf c r).length ≤ 7
      · rw [decide_eq_true hl, decide_eq_true (by omega)]
      · rw [decide_eq_false hl, decide_eq_false (by omega)]
    · rw [if_neg he]
      simp [he]
theorem num_nil : impl_number [] = some ((parseI []).1, false) := rfl
def cutAux (c : UInt8) : List UInt8 → List UInt8 → List (List UInt8)
  | mid, [] => [mid]
  | mid, b :: t => if b = c then mid :: cutAux c [] t else cutAux c (mid ++ [b]) t
theorem cutAux_nil {c : UInt8} {mid : List UInt8} : cutAux c mid [] = [mid] := by rw [cutAux]
theorem cutAux_hit {c : UInt8} {mid t : List UInt8} : cutAux c mid (c :: t) = mid :: cutAux c [] t := by rw [cutAux, if_pos rfl]
theorem cutAux_miss {c b : UInt8} {mid t : List UInt8} (h : b ≠ c) : cutAux c mid (b :: t) = cutAux c (mid ++ [b]) t := by rw [cutAux, if_neg h]
theorem cutAux_len (c : UInt8) : ∀ (s mid : List UInt8), 1 ≤ (cutAux c mid s).length ∧ (cutAux c mid s).length ≤ s.length + 1
  | [], mid => by rw [cutAux_nil]; simp
  | b :: t, mid => by
    by_cases h : b = c
    · subst h
      have := cutAux_len b t []
      rw [cutAux_hit]; simp only [List.length_cons]; omega
    · have := cutAux_len c t (mid ++ [b])
      rw [cutAux_miss h]; simp only [List.length_cons]; omega
theorem indexByte_at (c : UInt8) (t : List UInt8) : ∀ (mid : List UInt8), (∀ x ∈ mid, x ≠ c) → Lib.indexByte (mid ++ c :: t) c = (mid.length : Int)
  | [], _ => by simp [Lib.indexByte]
  | b :: mid, h => by
    have hb : (b == c) = false := by simpa using h b (by simp)
    have ih := indexByte_at c t mid (fun x hx => h x (by simp [hx]))
    simp only [List.cons_append, Lib.indexByte, hb, ih]
    have : ((mid.length : Int) == -1) = false := by simp
    rw [this]
    simp
theorem split_cut (c : UInt8) : ∀ (s mid : List UInt8), (∀ x ∈ mid, x ≠ c) → Lib.splitK [c] 0 (Lib.count (mid ++ s) [c]) (mid ++ s) = cutAux c mid s
  | [], mid, h => by
    have : Lib.count (mid ++ []) [c] = 0 := by
      rw [Lib.count_one, List.append_nil]
      exact List.count_eq_zero.2 fun hm => h c hm rfl
    rw [this, cutAux_nil, List.append_nil]; rfl
  | b :: t, mid, h => by
    by_cases hb : b = c
    · subst hb
      have hc : Lib.count (mid ++ b :: t) [b] = Lib.count t [b] + 1 := by
        rw [Lib.count_one, Lib.count_one, List.count_append, List.count_cons_self, List.count_eq_zero.2 fun hm => h b hm rfl]; omega
      have hi : Lib.index (mid ++ b :: t) [b] = (mid.length : Int) := by rw [Lib.index_one]; exact indexByte_at b t mid h
      have ih := split_cut b t [] (by simp)
      rw [List.nil_append] at ih
      rw [hc, cutAux_hit, Lib.splitK, hi, if_neg (by simp), Int.toNat_natCast]
      rw [show mid.length + 0 = mid.length from rfl, List.take_left, show mid.length + [b].length = (mid ++ [b]).length by simp, show mid ++ b :: t = (mid ++ [b]) ++ t by simp, List.drop_left, ih]
    · have ih := split_cut c t (mid ++ [b]) (by
        intro x hx
        rcases List.mem_append.1 hx with hx | hx
        · exact h x hx
        · rw [List.mem_singleton] at hx; subst hx; exact hb)
      rw [cutAux_miss hb, ← ih]; simp
theorem splitL_cut {p : List UInt8} {c : UInt8} : splitL p [c] = cutAux c [] p := by
  unfold splitL
  rw [Lib.splitB_data]
  exact split_cut c p [] (by simp)
theorem subI_mid {pre mid rest : List UInt8} (h : (pre ++ mid ++ rest).length ≤ 1048576) : subI (pre ++ mid ++ rest) (pre.length : Int) ((pre.length + mid.length : Nat) : Int) = some mid := by
  unfold subI cutI
  rw [if_pos (by simp; omega), if_pos (by omega)]
  simp only [Option.map_some, Int.toNat_natCast, Nat.add_sub_cancel_left, List.append_assoc, List.drop_left, List.take_left]
theorem cut_loop {p : List UInt8} {c : UInt8} (hp : p.length ≤ 1048576) : ∀ (rest pre mid : List UInt8) (out : List (List UInt8)), p = pre ++ mid ++ rest → out.length ≤ pre.length + mid.length →
    loopO (spec_l1Cut_s7 p (c.toNat : Int)) (out, (pre.length : Int), ((pre.length + mid.length : Nat) : Int)) = some (out ++ cutAux c mid rest)
  | [], pre, mid, out, e, ho => by
    have hl : p.length = pre.length + mid.length := by rw [e]; simp
    have hs : subI p (pre.length : Int) ((pre.length + mid.length : Nat) : Int) = some mid := by rw [e]; exact subI_mid (by rw [← e]; exact hp)
    rw [loopO_eq]
    simp only [spec_l1Cut_s7, spec_l1Cut_u6, spec_l1Cut_u4, spec_l1Cut_u5, decide_eq_true_eq]
    rw [if_pos (by omega), if_pos (by simp; omega)]
    simp only [Option.bind_some, if_true, hs]
    rw [if_pos (okApp_of (by simp; omega)), w64 (by omega)]
    simp only [Option.bind_some]
    rw [loopO_eq]
    simp only [spec_l1Cut_s7, decide_eq_true_eq]
    rw [if_neg (by omega)]
    simp only [cutAux_nil]
  | b :: rest, pre, mid, out, e, ho => by
    have hl : p.length = pre.length + mid.length + (rest.length + 1) := by rw [e]; simp; omega
    have hs : subI p (pre.length : Int) ((pre.length + mid.length : Nat) : Int) = some mid := by rw [e]; exact subI_mid (by rw [← e]; exact hp)
    have hg : p[pre.length + mid.length]? = some b := by rw [e]; simp
    rw [loopO_eq]
    simp only [spec_l1Cut_s7, spec_l1Cut_u6, spec_l1Cut_u4, spec_l1Cut_u5, decide_eq_true_eq]
    rw [if_pos (by omega), if_neg (by simp; omega), getI_nat, hg]
    simp only [Option.bind_some, hs]
    by_cases hb : b = c
    · subst hb
      have ih := cut_loop (c := b) hp rest (pre ++ mid ++ [b]) [] (out ++ [mid]) (by rw [e]; simp) (by simp; omega)
      have e1 : ((pre ++ mid ++ [b]).length : Int) = ((pre.length + mid.length : Nat) : Int) + 1 := by simp; omega
      have e2 : (((pre ++ mid ++ [b]).length + ([] : List UInt8).length : Nat) : Int) = ((pre.length + mid.length : Nat) : Int) + 1 := by simp; omega
      rw [e1, e2] at ih
      simp only [beq_self_eq_true, if_true]
      rw [if_pos (okApp_of (by simp; omega)), w64 (by omega)]
      simp only [Option.bind_some, ih, cutAux_hit]
      simp
    · have hn : ((b.toNat : Int) == (c.toNat : Int)) = false := by
        simp only [beq_eq_false_iff_ne, ne_eq]
        intro q; exact hb (UInt8.toNat_inj.1 (by omega))
      have ih := cut_loop (c := c) hp rest pre (mid ++ [b]) out (by rw [e]; simp) (by simp; omega)
      have e1 : ((pre.length + (mid ++ [b]).length : Nat) : Int) = ((pre.length + mid.length : Nat) : Int) + 1 := by simp; omega
      rw [e1] at ih
      rw [hn]
      simp only [Bool.false_eq_true, if_false, Option.bind_some]
      rw [w64 (by omega), ih, cutAux_miss hb]
theorem l1Cut_eq {p : List UInt8} {c : UInt8} (hp : p.length ≤ 1048576) : spec_l1Cut p (c.toNat : Int) = some (cutAux c [] p) := by
  unfold spec_l1Cut
  have := cut_loop (c := c) hp p [] [] [] (by simp) (by simp)
  simp only [List.length_nil, List.nil_append] at this
  have e : loopO (spec_l1Cut_s7 p (c.toNat : Int)) ([], 0, 0) = some (cutAux c [] p) := this
  rw [e]; rfl
def joinC (c : UInt8) : List (List UInt8) → List UInt8
  | [] => []
  | [w] => w
  | w :: v :: ws => w ++ c :: joinC c (v :: ws)
theorem joinC_cons {c : UInt8} {w : List UInt8} {ws : List (List UInt8)} (h : 1 ≤ ws.length) : joinC c (w :: ws) = w ++ c :: joinC c ws := by
  cases ws with
  | nil => simp at h
  | cons v ws => rw [joinC]
theorem join_cut (c : UInt8) : ∀ (s mid : List UInt8), joinC c (cutAux c mid s) = mid ++ s
  | [], mid => by rw [cutAux_nil, joinC]; simp
  | b :: t, mid => by
    by_cases h : b = c
    · subst h
      rw [cutAux_hit, joinC_cons (cutAux_len b t []).1, join_cut b t []]; simp
    · rw [cutAux_miss h, join_cut c t (mid ++ [b])]; simp
theorem cut_word (c : UInt8) (s : List UInt8) : ∀ (w mid : List UInt8), (∀ x ∈ w, x ≠ c) → cutAux c mid (w ++ c :: s) = (mid ++ w) :: cutAux c [] s
  | [], mid, _ => by rw [List.nil_append, cutAux_hit, List.append_nil]
  | b :: w, mid, h => by
    rw [List.cons_append, cutAux_miss (h b (by simp)), cut_word c s w (mid ++ [b]) (fun x hx => h x (by simp [hx]))]; simp
theorem cut_last (c : UInt8) : ∀ (w mid : List UInt8), (∀ x ∈ w, x ≠ c) → cutAux c mid w = [mid ++ w]
  | [], mid, _ => by rw [cutAux_nil, List.append_nil]
  | b :: w, mid, h => by
    rw [cutAux_miss (h b (by simp)), cut_last c w (mid ++ [b]) (fun x hx => h x (by simp [hx]))]; simp
theorem dec_no58 {u : Nat} : ∀ x ∈ Lib.decDigits u, x ≠ (58 : UInt8) := fun x hx e => by
  have := isD_iff.1 (List.all_eq_true.1 (dec_dig u) x hx)
  rw [e] at this
  have : (58 : UInt8).toNat = 58 := rfl
  omega
def wLost : List UInt8 := [108, 111, 115, 116]
def wComes : List UInt8 := [99, 111, 109, 101, 115]
def wTwice : List UInt8 := [116, 119, 105, 99, 101]
def wTurned : List UInt8 := [116, 117, 114, 110, 101, 100]
def txt (f : SFate) : List UInt8 :=
  if f.Kind = 1 then wComes ++ 58 :: Lib.decDigits f.Delay.toNat
  else if f.Kind = 2 then wTwice ++ 58 :: Lib.decDigits f.Delay.toNat
  else if f.Kind = 3 then wTurned ++ 58 :: (Lib.decDigits f.Delay.toNat ++ 58 :: (Lib.decDigits f.At.toNat ++ 58 :: Lib.decDigits f.Bits.toNat))
  else wLost
theorem decimal_eq {x : Int} (hx : 0 ≤ x ∧ x ≤ 65535) : impl_decimal x = some (Lib.decDigits x.toNat) ∧ (Lib.decDigits x.toNat).length ≤ 65536 := by
  refine ⟨?_, by have := dec_len x.toNat; omega⟩
  unfold impl_decimal strconv_FormatInt
  rw [if_pos ⟨decide_eq_true (by omega), rfl⟩]
  simp only [Option.bind_some]
  unfold Lib.itoa
  rw [if_neg (by omega)]
theorem fateText_eq {f : SFate} (h : spec_FateFault f = 0) : impl_fateText f = some (txt f) := by
  obtain ⟨k, d, a, b⟩ := f
  obtain ⟨h1, h2, h3⟩ := fate_ok h
  simp only at h1 h2 h3
  unfold impl_fateText impl_fateText_u1 impl_fateText_u4 impl_fateText_u2 impl_fateText_u3 txt
  obtain ⟨d2, d3⟩ := decimal_eq (x := d) (by omega)
  have hk : k = 0 ∨ k = 1 ∨ k = 2 ∨ k = 3 := by omega
  rcases hk with rfl | rfl | rfl | rfl
  · rfl
  · simp only [d2, Option.bind_some, beq_self_eq_true, if_true, Int.reduceBEq, Bool.false_eq_true, if_false]
    rw [if_pos (by simp; omega), if_pos (by simp; omega)]
    rfl
  · simp only [d2, Option.bind_some, beq_self_eq_true, if_true, Int.reduceBEq, Bool.false_eq_true, if_false]
    rw [if_pos (by simp; omega), if_pos (by simp; omega)]
    rfl
  · obtain ⟨g1, g2⟩ := h3 rfl
    obtain ⟨a2, a3⟩ := decimal_eq (x := a) (by omega)
    obtain ⟨b2, b3⟩ := decimal_eq (x := b) (by omega)
    simp only [d2, a2, b2, Option.bind_some, beq_self_eq_true, if_true, Int.reduceBEq, Bool.false_eq_true, if_false]
    repeat rw [if_pos (by simp; omega)]
    simp [wTurned]
def partsOf (f : SFate) : List (List UInt8) :=
  if f.Kind = 1 then [wComes, Lib.decDigits f.Delay.toNat]
  else if f.Kind = 2 then [wTwice, Lib.decDigits f.Delay.toNat]
  else if f.Kind = 3 then [wTurned, Lib.decDigits f.Delay.toNat, Lib.decDigits f.At.toNat, Lib.decDigits f.Bits.toNat]
  else [wLost]
theorem cut_txt {f : SFate} : cutAux 58 [] (txt f) = partsOf f := by
  have n1 : ∀ x ∈ wComes, x ≠ (58 : UInt8) := by decide
  have n2 : ∀ x ∈ wTwice, x ≠ (58 : UInt8) := by decide
  have n3 : ∀ x ∈ wTurned, x ≠ (58 : UInt8) := by decide
  have n0 : ∀ x ∈ wLost, x ≠ (58 : UInt8) := by decide
  unfold txt partsOf
  split
  · rw [cut_word _ _ _ _ n1, cut_last _ _ _ dec_no58]; rfl
  · split
    · rw [cut_word _ _ _ _ n2, cut_last _ _ _ dec_no58]; rfl
    · split
      · rw [cut_word _ _ _ _ n3, cut_word _ _ _ _ dec_no58, cut_word _ _ _ _ dec_no58, cut_last _ _ _ dec_no58]; rfl
      · rw [cut_last _ _ _ n0]; rfl
theorem dec_lenK : ∀ (k u : Nat), u < 10 ^ (k + 1) → (Lib.decDigits u).length ≤ k + 1
  | 0, u, h => by rw [Lib.decDigits, dif_pos (by simpa using h)]; simp
  | k + 1, u, h => by
    rw [Lib.decDigits]
    split
    · simp
    · have := dec_lenK k (u / 10) (by rw [Nat.pow_succ] at h; omega)
      simp only [List.length_append, List.length_cons, List.length_nil]; omega
theorem body_len {c : UInt8} {r : List UInt8} : (bodyOf c r).length ≤ (c :: r).length := by
  unfold bodyOf
  split
  · simp
  · exact Nat.le_refl _
theorem dec_facts {u : Nat} (hu : u ≤ 65535) : ∃ c r, Lib.decDigits u = c :: r ∧ (c :: r).length ≤ 7 ∧ Lib.itoa (u : Int) = c :: r := by
  have h7 := dec_lenK 6 u (Nat.lt_of_le_of_lt hu (by decide))
  cases h : Lib.decDigits u with
  | nil =>
    rw [Lib.decDigits] at h
    split at h <;> simp at h
  | cons c r => exact ⟨c, r, rfl, by rw [← h]; exact h7, by rw [Lib.itoa_nonneg, h]⟩
theorem spec_dec {u : Nat} (hu : u ≤ 65535) : spec_ReadNumber 64 (Lib.decDigits u) = some ⟨0, (u : Int)⟩ := by
  obtain ⟨c, r, e, h7, hi⟩ := dec_facts hu
  obtain ⟨e1, e2, e3⟩ := spelled hi
  rw [e, spec_form (by omega), if_pos ⟨e1, Nat.le_trans body_len h7, e2, by rw [e3]; exact hi⟩, e3]
theorem impl_dec {u : Nat} (hu : u ≤ 65535) : impl_number (Lib.decDigits u) = some ((u : Int), true) := by
  obtain ⟨c, r, e, h7, hi⟩ := dec_facts hu
  obtain ⟨e1, e2, e3⟩ := spelled hi
  have hb := Nat.le_trans (body_len (c := c) (r := r)) h7
  have hn := numbers e1 hb e2 e3.symm
  rw [e, num_form (by omega), hn]
  simp only [true_and]
  rw [decide_eq_true ⟨hi, hb⟩]
theorem spec_num {x : List UInt8} (hx : x.length ≤ 1048576) : ∃ r, spec_ReadNumber 64 x = some r ∧ (r.Code = 0 → x = Lib.itoa r.Value) ∧ (r.Code ≠ 0 → r = ⟨5, 0⟩) := by
  match x with
  | [] => exact ⟨⟨5, 0⟩, rfl, fun h => by simp at h, fun _ => rfl⟩
  | c :: r =>
    rw [spec_form hx]
    refine ⟨_, rfl, fun h => ?_, fun h => ?_⟩
    · split at h
      · rename_i q; rw [if_pos q]; exact q.2.2.2.symm
      · simp at h
    · split at h
      · simp at h
      · rename_i q; rw [if_neg q]
theorem impl_num {x : List UInt8} (hx : x.length ≤ 1048576) : ∃ r, impl_number x = some r := by
  match x with
  | [] => exact ⟨_, rfl⟩
  | c :: r => exact ⟨_, num_form hx⟩
inductive NumsOf : List (List UInt8) → List Int → Prop
  | nil : NumsOf [] []
  | cons {x : List UInt8} {n : Int} {xs : List (List UInt8)} {ns : List Int} (h : spec_ReadNumber 64 x = some ⟨0, n⟩) (t : NumsOf xs ns) : NumsOf (x :: xs) (n :: ns)
theorem nums_loop {parts : List (List UInt8)} (hp : parts.length ≤ 1048576) (hx : ∀ x ∈ parts, x.length ≤ 1048576) : ∀ (rest pre : List (List UInt8)) (vals : List Int), parts = pre ++ rest → vals.length ≤ pre.length →
    (∃ ns, loopO (spec_l22Read_s1 64 parts) (vals, (pre.length : Int)) = some (.inl (vals ++ ns)) ∧ NumsOf rest ns) ∨
    (loopO (spec_l22Read_s1 64 parts) (vals, (pre.length : Int)) = some (.inr ()) ∧ ∃ x ∈ rest, ∀ n, spec_ReadNumber 64 x ≠ some ⟨0, n⟩)
  | [], pre, vals, e, hv => by
    have hl : parts.length = pre.length := by rw [e]; simp
    refine .inl ⟨[], ?_, .nil⟩
    rw [loopO_eq]
    simp only [spec_l22Read_s1, decide_eq_true_eq]
    rw [if_neg (by omega)]; simp
  | x :: rest, pre, vals, e, hv => by
    have hl : parts.length = pre.length + (rest.length + 1) := by rw [e]; simp
    have hg : parts[pre.length]? = some x := by rw [e]; simp
    obtain ⟨r, r1, r2, r3⟩ := spec_num (x := x) (hx x (by rw [e]; simp))
    have step : spec_l22Read_s1 64 parts (vals, (pre.length : Int)) = if r.Code = 0 then some (.inl (vals ++ [r.Value], (pre.length : Int) + 1)) else some (.inr (.inr ())) := by
      simp only [spec_l22Read_s1, decide_eq_true_eq]
      rw [if_pos (by omega), getI_nat, hg, Int.toNat_natCast, hg]
      simp only [Option.bind_some, r1, bne_iff_ne, ne_eq]
      by_cases hc : r.Code = 0
      · rw [if_neg (by simp [hc]), if_pos (okApp_8 (by simp; omega)), if_pos hc, w64 (by omega)]
      · rw [if_pos hc, if_neg hc]
    rw [loopO_eq, step]
    by_cases hc : r.Code = 0
    · rw [if_pos hc]
      have hr : spec_ReadNumber 64 x = some ⟨0, r.Value⟩ := by rw [r1]; obtain ⟨a, b⟩ := r; simp only at hc; rw [hc]
      have e2 : (pre.length : Int) + 1 = ((pre ++ [x]).length : Int) := by simp
      rw [e2]
      rcases nums_loop hp hx rest (pre ++ [x]) (vals ++ [r.Value]) (by rw [e]; simp) (by simp; omega) with ⟨ns, n1, n2⟩ | ⟨n1, y, n2, n3⟩
      · exact .inl ⟨r.Value :: ns, by simp only []; rw [n1]; simp, .cons hr n2⟩
      · exact .inr ⟨by simp only []; rw [n1], y, by simp [n2], n3⟩
    · rw [if_neg hc]
      exact .inr ⟨rfl, x, by simp, fun n q => by rw [r1] at q; obtain rfl := Option.some.inj q; exact hc rfl⟩
theorem u7_form {w : List UInt8} {rest : List (List UInt8)} {ns : List Int} : spec_l22Read_u7 64 (w :: rest) ns = some (if w = wComes ∧ ns.length = 1 then .inl (1, ns.getD 0 0, 0, 0) else if w = wTwice ∧ ns.length = 1 then .inl (2, ns.getD 0 0, 0, 0) else if w = wTurned ∧ ns.length = 3 then .inl (3, ns.getD 0 0, ns.getD 1 0, ns.getD 2 0) else if w = wLost ∧ ns.length = 0 then .inl (0, 0, 0, 0) else .inr ()) := by
  have g0 : getI (w :: rest) 0 = some w := rfl
  have g1 : (w :: rest)[(0 : Int).toNat]? = some w := rfl
  have get : ∀ (i : Nat) (l : List Int), i < l.length → getI l (i : Int) = some (l.getD i 0) ∧ l[i]? = some (l.getD i 0) := fun i l h => by
    rw [getI_nat]
    simp [h]
  unfold spec_l22Read_u7 spec_l22Read_u2 spec_l22Read_u6 spec_l22Read_u3 spec_l22Read_u4 spec_l22Read_u5
  simp only [g0, g1, Option.bind_some]
  by_cases h1 : w = wComes
  · subst h1
    by_cases hl : ns.length = 1
    · obtain ⟨e1, e2⟩ := get 0 ns (by omega)
      have e1' : getI ns 0 = some (ns.getD 0 0) := e1
      have e2' : ns[(0 : Int).toNat]? = some (ns.getD 0 0) := e2
      simp [wComes, hl, e1', e2']
    · have : ¬ ((ns.length : Int) = 1) := by omega
      simp [wComes, wTwice, wTurned, wLost, hl, this]
  · by_cases h2 : w = wTwice
    · subst h2
      by_cases hl : ns.length = 1
      · obtain ⟨e1, e2⟩ := get 0 ns (by omega)
        have e1' : getI ns 0 = some (ns.getD 0 0) := e1
        have e2' : ns[(0 : Int).toNat]? = some (ns.getD 0 0) := e2
        simp [wComes, wTwice, hl, e1', e2']
      · have : ¬ ((ns.length : Int) = 1) := by omega
        simp [wComes, wTwice, wTurned, wLost, hl, this]
    · by_cases h3 : w = wTurned
      · subst h3
        by_cases hl : ns.length = 3
        · obtain ⟨e1, e2⟩ := get 0 ns (by omega)
          obtain ⟨f1, f2⟩ := get 1 ns (by omega)
          obtain ⟨k1, k2⟩ := get 2 ns (by omega)
          have e1' : getI ns 0 = some (ns.getD 0 0) := e1
          have e2' : ns[(0 : Int).toNat]? = some (ns.getD 0 0) := e2
          have f1' : getI ns 1 = some (ns.getD 1 0) := f1
          have f2' : ns[(1 : Int).toNat]? = some (ns.getD 1 0) := f2
          have k1' : getI ns 2 = some (ns.getD 2 0) := k1
          have k2' : ns[(2 : Int).toNat]? = some (ns.getD 2 0) := k2
          simp [wComes, wTwice, wTurned, hl, e1', e2', f1', f2', k1', k2']
        · have : ¬ ((ns.length : Int) = 3) := by omega
          simp [wComes, wTwice, wTurned, wLost, hl, this]
      · have b1 : (w == [99, 111, 109, 101, 115]) = false := by simpa [wComes] using h1
        have b2 : (w == [116, 119, 105, 99, 101]) = false := by simpa [wTwice] using h2
        have b3 : (w == [116, 117, 114, 110, 101, 100]) = false := by simpa [wTurned] using h3
        simp only [b1, b2, b3, Bool.false_eq_true, if_false, Option.bind_some, h1, h2, h3, false_and]
        by_cases h4 : w = wLost
        · subst h4
          by_cases hl : ns.length = 0
          · simp [wLost, hl]
          · have h0 : 0 < ns.length := by omega
            simp [wLost, hl, h0]
        · have b4 : (w == [108, 111, 115, 116]) = false := by simpa [wLost] using h4
          simp [b4, h4]
theorem fate_ok2 {f : SFate} (h : spec_FateFault f = 0) : (f.Kind = 0 → f.Delay = 0) ∧ (f.Kind ≠ 3 → f.At = 0 ∧ f.Bits = 0) := by
  obtain ⟨h1, h2, h3⟩ := fate_ok h
  obtain ⟨k, d, a, b⟩ := f
  unfold spec_FateFault spec_FateFault_u1 spec_FateFault_u2 at h
  simp only [spec_l1In_eq] at h
  simp only at h1 h2 h3 ⊢
  by_cases k3 : k = 3
  · subst k3; simp
  · by_cases k0 : k = 0
    · subst k0
      by_cases h6 : a = 0 <;> by_cases h7 : b = 0 <;> by_cases h8 : d = 0 <;> simp [h2, h6, h7, h8] at h ⊢
    · by_cases h6 : a = 0 <;> by_cases h7 : b = 0 <;> simp [k0, k3, h1, h2, h6, h7] at h ⊢
theorem nums_dec : ∀ {us : List Nat} {ns : List Int}, (∀ u ∈ us, u ≤ 65535) → NumsOf (us.map Lib.decDigits) ns → ns = us.map (fun u : Nat => (u : Int))
  | [], ns, _, h => by cases h; rfl
  | u :: us, ns, hu, h => by
    cases h with
    | cons h t =>
      rw [spec_dec (hu u (by simp))] at h
      have e := Option.some.inj h
      simp only [SIntResult.mk.injEq, true_and] at e
      rw [← e, nums_dec (fun v hv => hu v (by simp [hv])) t]; rfl
theorem numsOf_len : ∀ {xs : List (List UInt8)} {ns : List Int}, NumsOf xs ns → ns.length = xs.length
  | _, _, .nil => rfl
  | _, _, .cons _ t => by simp [numsOf_len t]
theorem numsOf_at {xs : List (List UInt8)} {ns : List Int} (h : NumsOf xs ns) (hx : ∀ x ∈ xs, x.length ≤ 1048576) : ∀ (i : Nat) (x : List UInt8), xs[i]? = some x → x = Lib.itoa (ns.getD i 0) := by
  induction h with
  | nil => intro i x q; simp at q
  | @cons x0 n0 xs0 ns0 h t ih =>
    intro i x q
    rcases i with _ | i
    · simp only [List.getElem?_cons_zero, Option.some.injEq] at q
      subst q
      obtain ⟨r, r1, r2, _⟩ := spec_num (x := x0) (hx x0 (by simp))
      rw [h] at r1
      obtain rfl := Option.some.inj r1
      simpa using r2 rfl
    · simp only [List.getElem?_cons_succ] at q
      simpa using ih (fun y hy => hx y (by simp [hy])) i x q
theorem cut_short {c : UInt8} : ∀ (s mid : List UInt8), ∀ x ∈ cutAux c mid s, x.length ≤ mid.length + s.length
  | [], mid, x, h => by rw [cutAux_nil, List.mem_singleton] at h; subst h; simp
  | b :: t, mid, x, h => by
    by_cases hb : b = c
    · subst hb
      rw [cutAux_hit] at h
      rcases List.mem_cons.1 h with rfl | h
      · simp
      · have := cut_short t [] x h; simp at this ⊢; omega
    · rw [cutAux_miss hb] at h
      have := cut_short t (mid ++ [b]) x h; simp at this ⊢; omega
theorem itoa_dec {n : Int} (h : 0 ≤ n) : Lib.itoa n = Lib.decDigits n.toNat := by unfold Lib.itoa; rw [if_neg (by omega)]
theorem spec_fate {p : List UInt8} (hp : p.length ≤ 1048576) : ∃ r, spec_ReadFate 64 p = some r ∧ (r = ⟨5, ⟨0, 0, 0, 0⟩⟩ ∨ ∃ f, r = ⟨0, f⟩ ∧ spec_FateFault f = 0 ∧ p = txt f) := by
  unfold spec_ReadFate spec_l22Read
  by_cases h30 : (p.length : Int) > 30
  · rw [if_pos (decide_eq_true h30)]
    exact ⟨_, rfl, .inl rfl⟩
  rw [if_neg (by simpa using h30)]
  have hc := l1Cut_eq (c := 58) (p := p) hp
  rw [show ((58 : UInt8).toNat : Int) = 58 from rfl] at hc
  rw [hc]
  simp only [Option.bind_some]
  have hj := join_cut 58 p []
  have hl := cutAux_len 58 p []
  have hs := cut_short (c := 58) p []
  generalize cutAux 58 [] p = parts at hj hl hs
  rw [List.nil_append] at hj
  cases parts with
  | nil => simp at hl
  | cons w rest =>
    have hx : ∀ x ∈ w :: rest, x.length ≤ 1048576 := fun x hx => by have := hs x hx; simp at this; omega
    rcases nums_loop (parts := w :: rest) (by have := hl.2; simp at this ⊢; omega) hx rest [w] [] rfl (by simp) with ⟨ns, n1, n2⟩ | ⟨n1, _⟩
    · have n1' : loopO (spec_l22Read_s1 64 (w :: rest)) ([], 1) = some (.inl ns) := by simpa using n1
      have hat := numsOf_at n2 (fun x h => hx x (by simp [h]))
      have hlen := numsOf_len n2
      rw [n1']
      simp only [Option.bind_some, Sum.elim_inl, u7_form]
      have one : ∀ (v : List UInt8) (k : Int), w = v → ns.length = 1 → 0 ≤ ns.getD 0 0 → p = v ++ 58 :: Lib.decDigits (ns.getD 0 0).toNat := fun v k hw h1 h0 => by
        obtain ⟨x, rfl⟩ : ∃ x, rest = [x] := by
          match rest, hlen with
          | [x], _ => exact ⟨x, rfl⟩
          | [], q => simp only [List.length_nil, List.length_cons] at q; omega
          | _ :: _ :: _, q => simp only [List.length_nil, List.length_cons] at q; omega
        have := hat 0 x rfl
        rw [itoa_dec h0] at this
        rw [← hj, hw, ← this]; rfl
      by_cases c1 : w = wComes ∧ ns.length = 1
      · rw [if_pos c1]
        simp only [Option.bind_some, Sum.elim_inl]
        by_cases hf : spec_FateFault ⟨1, ns.getD 0 0, 0, 0⟩ = 0
        · rw [hf]
          refine ⟨_, rfl, .inr ⟨_, rfl, hf, ?_⟩⟩
          obtain ⟨_, q, _⟩ := fate_ok hf
          exact one wComes 1 c1.1 c1.2 q.1
        · have : (spec_FateFault ⟨1, ns.getD 0 0, 0, 0⟩ == 0) = false := by simpa using hf
          rw [this]
          exact ⟨_, rfl, .inl rfl⟩
      rw [if_neg c1]
      by_cases c2 : w = wTwice ∧ ns.length = 1
      · rw [if_pos c2]
        simp only [Option.bind_some, Sum.elim_inl]
        by_cases hf : spec_FateFault ⟨2, ns.getD 0 0, 0, 0⟩ = 0
        · rw [hf]
          refine ⟨_, rfl, .inr ⟨_, rfl, hf, ?_⟩⟩
          obtain ⟨_, q, _⟩ := fate_ok hf
          exact one wTwice 2 c2.1 c2.2 q.1
        · have : (spec_FateFault ⟨2, ns.getD 0 0, 0, 0⟩ == 0) = false := by simpa using hf
          rw [this]
          exact ⟨_, rfl, .inl rfl⟩
      rw [if_neg c2]
      by_cases c3 : w = wTurned ∧ ns.length = 3
      · rw [if_pos c3]
        simp only [Option.bind_some, Sum.elim_inl]
        by_cases hf : spec_FateFault ⟨3, ns.getD 0 0, ns.getD 1 0, ns.getD 2 0⟩ = 0
        · rw [hf]
          refine ⟨_, rfl, .inr ⟨_, rfl, hf, ?_⟩⟩
          obtain ⟨_, q, q3⟩ := fate_ok hf
          obtain ⟨q4, q5⟩ := q3 rfl
          simp only at q q4 q5
          obtain ⟨x, y, z, rfl⟩ : ∃ x y z, rest = [x, y, z] := by
            match rest, hlen with
            | [x, y, z], _ => exact ⟨x, y, z, rfl⟩
            | [], q => simp only [List.length_nil, List.length_cons] at q; omega
            | [_], q => simp only [List.length_nil, List.length_cons] at q; omega
            | [_, _], q => simp only [List.length_nil, List.length_cons] at q; omega
            | _ :: _ :: _ :: _ :: _, q => simp only [List.length_nil, List.length_cons] at q; omega
          have e0 := hat 0 x rfl
          have e1 := hat 1 y rfl
          have e2 := hat 2 z rfl
          rw [itoa_dec q.1] at e0
          rw [itoa_dec q4.1] at e1
          rw [itoa_dec (by omega)] at e2
          rw [← hj, c3.1]
          simp only [joinC, txt, e0, e1, e2]
          rfl
        · have : (spec_FateFault ⟨3, ns.getD 0 0, ns.getD 1 0, ns.getD 2 0⟩ == 0) = false := by simpa using hf
          rw [this]
          exact ⟨_, rfl, .inl rfl⟩
      rw [if_neg c3]
      by_cases c4 : w = wLost ∧ ns.length = 0
      · rw [if_pos c4]
        simp only [Option.bind_some, Sum.elim_inl]
        refine ⟨_, rfl, .inr ⟨⟨0, 0, 0, 0⟩, rfl, rfl, ?_⟩⟩
        obtain rfl : rest = [] := List.eq_nil_of_length_eq_zero (by omega)
        rw [← hj, c4.1]; rfl
      · rw [if_neg c4]
        exact ⟨_, rfl, .inl rfl⟩
    · have n1' : loopO (spec_l22Read_s1 64 (w :: rest)) ([], 1) = some (.inr ()) := by simpa using n1
      rw [n1']
      exact ⟨_, rfl, .inl rfl⟩
def kOf (w : List UInt8) : Int := if w = wLost then 0 else if w = wComes then 1 else if w = wTwice then 2 else if w = wTurned then 3 else -1
theorem index_eq {x : List UInt8} : slices_Index_string [[108, 111, 115, 116], [99, 111, 109, 101, 115], [116, 119, 105, 99, 101], [116, 117, 114, 110, 101, 100]] x = some (kOf x) := by
  unfold kOf
  have g : ∀ {l : List (List UInt8)} {i : Nat}, getI l (i : Int) = l[i]? := fun {l i} => getI_nat
  have s : ∀ (i : Nat), slices_Index_string_s1 [wLost, wComes, wTwice, wTurned] x 4 (i : Int) = if i < 4 then ([wLost, wComes, wTwice, wTurned][i]?).bind fun y => if x = y then some (.inr (.inr (i : Int))) else some (.inl ((i + 1 : Nat) : Int)) else some (.inr (.inl ())) := fun i => by
    simp only [slices_Index_string_s1, decide_eq_true_eq, getI_nat, beq_iff_eq]
    by_cases h : i < 4
    · rw [if_pos (by omega), if_pos h, w64 (by omega)]; rfl
    · rw [if_neg (by omega), if_neg h]
  have s0 := s 0
  have s1 := s 1
  have s2 := s 2
  have s3 := s 3
  have s4 := s 4
  simp only [Nat.reduceLT, if_true, if_false, List.getElem?_cons_zero, List.getElem?_cons_succ, Option.bind_some] at s0 s1 s2 s3 s4
  show (loopO (slices_Index_string_s1 [wLost, wComes, wTwice, wTurned] x 4) ((0 : Nat) : Int)).bind _ = _
  rw [loopO_eq, s0]
  by_cases h0 : x = wLost
  · rw [if_pos h0, if_pos h0]; rfl
  rw [if_neg h0, if_neg h0]
  simp only []
  rw [loopO_eq, s1]
  by_cases h1 : x = wComes
  · rw [if_pos h1, if_pos h1]; rfl
  rw [if_neg h1, if_neg h1]
  simp only []
  rw [loopO_eq, s2]
  by_cases h2 : x = wTwice
  · rw [if_pos h2, if_pos h2]; rfl
  rw [if_neg h2, if_neg h2]
  simp only []
  rw [loopO_eq, s3]
  by_cases h3 : x = wTurned
  · rw [if_pos h3, if_pos h3]; rfl
  rw [if_neg h3, if_neg h3]
  simp only []
  rw [loopO_eq, s4]
  rfl
def valX (x : List UInt8) : Int := ((impl_number x).getD (0, false)).1
def updI (i : Nat) (v : Int) (s : Int × Int × Int) : Int × Int × Int := if i = 0 then (v, s.2.1, s.2.2) else if i = 1 then (s.1, v, s.2.2) else if i = 2 then (s.1, s.2.1, v) else s
def goF : List (List UInt8) → Nat → Int × Int × Int → Int × Int × Int
  | [], _, s => s
  | x :: xs, i, s => goF xs (i + 1) (updI i (valX x) s)
theorem step6 {k : Int} {w : List UInt8} {rest : List (List UInt8)} {p : List UInt8} {i : Nat} {x : List UInt8} {s : Int × Int × Int} (hl : rest.length ≤ 1048576) (hx : rest[i]? = some x) (hn : ∃ r, impl_number x = some r) : impl_ReadFate_s6 k (w :: rest) p 1 rest.length (rest.length : Int) (s.1, s.2.1, s.2.2, (i : Int)) = some (.inl ((updI i (valX x) s).1, (updI i (valX x) s).2.1, (updI i (valX x) s).2.2, ((i + 1 : Nat) : Int))) := by
  obtain ⟨r, hn⟩ := hn
  have hi : i < rest.length := (List.getElem?_eq_some_iff.1 hx).1
  have hg : getI (((w :: rest).drop 1).take rest.length) (i : Int) = some x := by rw [getI_nat]; simpa using hx
  have hg2 : (w :: rest)[1 + (i : Int).toNat]? = some x := by rw [Int.toNat_natCast, Nat.add_comm]; simpa using hx
  have hv : valX x = r.1 := by simp [valX, hn]
  simp only [impl_ReadFate_s6, decide_eq_true_eq]
  rw [if_pos (by omega), w64 (by omega), hv]
  unfold impl_ReadFate_u5 impl_ReadFate_u4
  rw [hg, hg2]
  simp only [Option.bind_some, hn, decide_eq_true_eq, beq_iff_eq]
  obtain ⟨a, b, c⟩ := s
  by_cases h0 : i = 0
  · subst h0; simp [updI]
  · by_cases h1 : i = 1
    · subst h1; simp [updI]
    · by_cases h2 : i = 2
      · subst h2; simp [updI]
      · rw [if_neg (by omega)]; simp [updI, h0, h1, h2]
theorem run6 {k : Int} {w : List UInt8} {rest : List (List UInt8)} {p : List UInt8} (hl : rest.length ≤ 1048576) (hx : ∀ x ∈ rest, ∃ r, impl_number x = some r) : ∀ (tl : List (List UInt8)) (i : Nat) (s : Int × Int × Int), rest.drop i = tl → i ≤ rest.length → loopO (impl_ReadFate_s6 k (w :: rest) p 1 rest.length (rest.length : Int)) (s.1, s.2.1, s.2.2, (i : Int)) = some (goF tl i s)
  | [], i, s, e, hi => by
    have : rest.length ≤ i := List.drop_eq_nil_iff.1 e
    rw [loopO_eq]
    simp only [impl_ReadFate_s6, decide_eq_true_eq]
    rw [if_neg (by omega)]; rfl
  | x :: tl, i, s, e, hi => by
    have hg : rest[i]? = some x := by
      have := congrArg (fun l => l[0]?) e
      simpa using this
    have hi2 : i < rest.length := (List.getElem?_eq_some_iff.1 hg).1
    rw [loopO_eq, step6 hl hg (hx x (List.mem_of_getElem? hg))]
    simp only []
    rw [run6 hl hx tl (i + 1) (updI i (valX x) s) (by rw [← List.drop_drop, e]; rfl) hi2]
    rfl
theorem impl_form {p w : List UInt8} {rest : List (List UInt8)} (hp : p.length ≤ 1048576) (e : cutAux 58 [] p = w :: rest) : impl_ReadFate p = (let k : Int := kOf w; let t := goF rest 0 (0, 0, 0); (impl_ReadFate_u8 k t.1 t.2.1 t.2.2 p).bind fun y => if y = true then some ⟨5, ⟨0, 0, 0, 0⟩⟩ else some ⟨0, ⟨k, t.1, t.2.1, t.2.2⟩⟩) := by
  have hl := (cutAux_len 58 p []).2
  have hs := cut_short (c := 58) p []
  rw [e] at hl hs
  have hl2 : rest.length ≤ 1048576 := by simp at hl; omega
  have hx : ∀ x ∈ rest, ∃ r, impl_number x = some r := fun x h => impl_num (by have := hs x (by simp [h]); simp at this; omega)
  have hsp : strings_Split p [58] = some (w :: rest) := by
    unfold strings_Split
    rw [if_pos (show okSplit p [58] = true from decide_eq_true ⟨by omega, by simp⟩), splitL_cut, e]
  have hc : cutI (w :: rest).length 1 ((w :: rest).length : Int) = some (1, rest.length + 1) := by
    unfold cutI
    rw [if_pos (by simp only [List.length_cons]; omega), if_pos (by simp only [List.length_cons]; omega)]; simp
  have hr := run6 (k := kOf w) (w := w) (p := p) hl2 hx rest 0 (0, 0, 0) rfl (by omega)
  unfold impl_ReadFate impl_ReadFate_u1
  rw [hsp]
  simp only [Option.bind_some]
  rw [show getI (w :: rest) 0 = some w from rfl, show (w :: rest)[(0 : Int).toNat]? = some w from rfl]
  simp only [Option.bind_some, index_eq]
  rw [hc]
  simp only [Option.bind_some, Nat.add_sub_cancel]
  have hr' := hr
  simp only [Int.natCast_zero, Int.cast_ofNat_Int] at hr'
  rw [hr']
  rfl
theorem u8_form {f : SFate} {p : List UInt8} : impl_ReadFate_u8 f.Kind f.Delay f.At f.Bits p = some (decide (¬ (spec_FateFault f = 0 ∧ p = txt f))) := by
  obtain ⟨k, d, a, b⟩ := f
  unfold impl_ReadFate_u8
  rw [fate_same]
  simp only [Option.bind_some, bne_iff_ne, ne_eq]
  by_cases h : spec_FateFault ⟨k, d, a, b⟩ = 0
  · rw [if_neg (by simp [h]), fateText_eq h]
    simp only [Option.bind_some, h, true_and]
    by_cases q : p = txt ⟨k, d, a, b⟩
    · rw [← q]; simp
    · have : (txt ⟨k, d, a, b⟩ == p) = false := by simpa using fun e => q e.symm
      simp [this, q]
  · simp [h]
theorem impl_fate {p : List UInt8} (hp : p.length ≤ 1048576) : ∃ r, impl_ReadFate p = some r ∧ (r = ⟨5, ⟨0, 0, 0, 0⟩⟩ ∨ ∃ f, r = ⟨0, f⟩ ∧ spec_FateFault f = 0 ∧ p = txt f) := by
  have hl := (cutAux_len 58 p []).1
  cases e : cutAux 58 [] p with
  | nil => rw [e] at hl; simp at hl
  | cons w rest =>
    rw [impl_form hp e]
    simp only []
    generalize kOf w = k
    generalize goF rest 0 (0, 0, 0) = t
    have u := u8_form (f := ⟨k, t.1, t.2.1, t.2.2⟩) (p := p)
    simp only at u
    rw [u]
    simp only [Option.bind_some, decide_eq_true_eq]
    by_cases q : spec_FateFault ⟨k, t.1, t.2.1, t.2.2⟩ = 0 ∧ p = txt ⟨k, t.1, t.2.1, t.2.2⟩
    · rw [if_neg (fun x => x q)]
      exact ⟨_, rfl, .inr ⟨_, rfl, q.1, q.2⟩⟩
    · rw [if_pos q]
      exact ⟨_, rfl, .inl rfl⟩
theorem valX_dec {x : Int} (h : 0 ≤ x ∧ x ≤ 65535) : valX (Lib.decDigits x.toNat) = x := by
  unfold valX
  rw [impl_dec (by omega)]
  simp only [Option.getD_some]
  omega
theorem impl_at {f : SFate} (h : spec_FateFault f = 0) (hp : (txt f).length ≤ 1048576) : impl_ReadFate (txt f) = some ⟨0, f⟩ := by
  obtain ⟨h1, h2, h3⟩ := fate_ok h
  obtain ⟨z0, z3⟩ := fate_ok2 h
  have u := u8_form (f := f) (p := txt f)
  rw [decide_eq_false (fun q => q ⟨h, rfl⟩)] at u
  have e := cut_txt (f := f)
  obtain ⟨k, d, a, b⟩ := f
  simp only at h1 h2 h3 z0 z3 u
  unfold partsOf at e
  simp only at e
  have vd := valX_dec (x := d) (by omega)
  have hk : k = 0 ∨ k = 1 ∨ k = 2 ∨ k = 3 := by omega
  rcases hk with rfl | rfl | rfl | rfl
  · obtain rfl := z0 rfl
    obtain ⟨rfl, rfl⟩ := z3 (by decide)
    rw [impl_form hp e]
    have k1 : kOf wLost = 0 := rfl
    simp only [goF, k1, u, Option.bind_some, Bool.false_eq_true, if_false]
  · obtain ⟨rfl, rfl⟩ := z3 (by decide)
    rw [impl_form hp (e.trans (if_pos rfl))]
    have k1 : kOf wComes = 1 := rfl
    simp only [goF, updI, vd, k1, if_true, u, Option.bind_some, Bool.false_eq_true, if_false]
  · obtain ⟨rfl, rfl⟩ := z3 (by decide)
    rw [impl_form hp (e.trans rfl)]
    have k1 : kOf wTwice = 2 := rfl
    simp only [goF, updI, vd, k1, if_true, u, Option.bind_some, Bool.false_eq_true, if_false]
  · obtain ⟨g1, g2⟩ := h3 rfl
    have va := valX_dec (x := a) (by omega)
    have vb := valX_dec (x := b) (by omega)
    rw [impl_form hp (e.trans rfl)]
    have k1 : kOf wTurned = 3 := rfl
    simp only [goF, updI, vd, va, vb, k1, if_true, u, Option.bind_some, Bool.false_eq_true, if_false, Nat.reduceAdd, Nat.reduceEqDiff, Nat.one_ne_zero, Nat.zero_add]
theorem nums_run {parts : List (List UInt8)} {w : List UInt8} {us : List Nat} (e : parts = w :: us.map Lib.decDigits) (hp : parts.length ≤ 1048576) (hx : ∀ x ∈ parts, x.length ≤ 1048576) (hu : ∀ u ∈ us, u ≤ 65535) : loopO (spec_l22Read_s1 64 parts) ([], 1) = some (.inl (us.map (fun u : Nat => (u : Int)))) := by
  rcases nums_loop hp hx (us.map Lib.decDigits) [w] [] e (by simp) with ⟨ns, n1, n2⟩ | ⟨_, x, x1, x2⟩
  · rw [nums_dec hu n2] at n1
    simpa using n1
  · obtain ⟨u, u1, rfl⟩ := List.mem_map.1 x1
    exact absurd (spec_dec (hu u u1)) (x2 _)
theorem txt_len {f : SFate} (h : spec_FateFault f = 0) : (txt f).length ≤ 30 := by
  obtain ⟨h1, h2, h3⟩ := fate_ok h
  have l1 := dec_lenK 0 f.Delay.toNat (by simp; omega)
  unfold txt
  split
  · simp [wComes]; omega
  · split
    · simp [wTwice]; omega
    · split
      · rename_i k3
        obtain ⟨g1, g2⟩ := h3 k3
        have l2 := dec_lenK 3 f.At.toNat (Nat.lt_of_le_of_lt (show f.At.toNat ≤ 1279 by omega) (by decide))
        have l3 := dec_lenK 4 f.Bits.toNat (Nat.lt_of_le_of_lt (show f.Bits.toNat ≤ 65535 by omega) (by decide))
        simp [wTurned]; omega
      · simp [wLost]
theorem spec_at {f : SFate} (h : spec_FateFault f = 0) : spec_ReadFate 64 (txt f) = some ⟨0, f⟩ := by
  have h30 := txt_len h
  obtain ⟨h1, h2, h3⟩ := fate_ok h
  obtain ⟨z0, z3⟩ := fate_ok2 h
  have hc := l1Cut_eq (c := 58) (p := txt f) (by omega)
  rw [show ((58 : UInt8).toNat : Int) = 58 from rfl, cut_txt] at hc
  have hl := (cutAux_len 58 (txt f) []).2
  have hs := cut_short (c := 58) (txt f) []
  rw [cut_txt] at hl hs
  have hs' : ∀ x ∈ partsOf f, x.length ≤ 1048576 := fun x q => by have := hs x q; simp at this; omega
  have fin : ∀ (w : List UInt8) (us : List Nat), partsOf f = w :: us.map Lib.decDigits → (∀ u ∈ us, u ≤ 65535) → spec_l22Read_u7 64 (w :: us.map Lib.decDigits) (us.map (fun u : Nat => (u : Int))) = some (.inl (f.Kind, f.Delay, f.At, f.Bits)) → spec_ReadFate 64 (txt f) = some ⟨0, f⟩ := fun w us e hu q => by
    have n := nums_run e (by omega) hs' hu
    unfold spec_ReadFate spec_l22Read
    rw [if_neg (by simp; omega), hc]
    simp only [Option.bind_some]
    rw [n]
    simp only [Option.bind_some, Sum.elim_inl]
    rw [e, q]
    simp only [Option.bind_some, Sum.elim_inl]
    rw [show (SFate.mk f.Kind f.Delay f.At f.Bits) = f from rfl, h]
    rfl
  have hk : f.Kind = 0 ∨ f.Kind = 1 ∨ f.Kind = 2 ∨ f.Kind = 3 := by omega
  rcases hk with k | k | k | k
  · obtain ⟨a0, b0⟩ := z3 (by omega)
    refine fin wLost [] (by simp [partsOf, k]) (by simp) ?_
    rw [k, z0 k, a0, b0]; rfl
  · obtain ⟨a0, b0⟩ := z3 (by omega)
    refine fin wComes [f.Delay.toNat] (by simp [partsOf, k]) (by simp; omega) ?_
    have : ((f.Delay.toNat : Nat) : Int) = f.Delay := by omega
    rw [u7_form, if_pos (by simp), k, a0, b0]; simp [this]
  · obtain ⟨a0, b0⟩ := z3 (by omega)
    refine fin wTwice [f.Delay.toNat] (by simp [partsOf, k]) (by simp; omega) ?_
    have : ((f.Delay.toNat : Nat) : Int) = f.Delay := by omega
    rw [u7_form, if_neg (by simp [wTwice, wComes]), if_pos (by simp), k, a0, b0]; simp [this]
  · obtain ⟨g1, g2⟩ := h3 k
    refine fin wTurned [f.Delay.toNat, f.At.toNat, f.Bits.toNat] (by simp [partsOf, k]) (by simp; omega) ?_
    have t1 : ((f.Delay.toNat : Nat) : Int) = f.Delay := by omega
    have t2 : ((f.At.toNat : Nat) : Int) = f.At := by omega
    have t3 : ((f.Bits.toNat : Nat) : Int) = f.Bits := by omega
    rw [u7_form, if_neg (by simp), if_neg (by simp), if_pos (by simp), k]; simp [t1, t2, t3]
--REST0
theorem eq_same (r : SFateResult) : laws_eqFateResult r r = true := by
  simp [laws_eqFateResult, laws_eqFate]
theorem pure (p : List UInt8) (hp : (p.length : Int) ≤ maxI) : laws_FnExactReadFate 64 p = some true := by
  unfold laws_FnExactReadFate
  by_cases hl : (p.length : Int) > 1048576
  · rw [if_pos (decide_eq_true hl)]
  rw [if_neg (by simpa using hl)]
  have hl2 : p.length ≤ 1048576 := by omega
  obtain ⟨r1, e1, o1⟩ := spec_fate hl2
  obtain ⟨r2, e2, o2⟩ := impl_fate hl2
  have : r2 = r1 := by
    rcases o1 with rfl | ⟨f, rfl, hf, q⟩
    · rcases o2 with rfl | ⟨f, rfl, hf, q⟩
      · rfl
      · subst q; rw [spec_at hf] at e1; exact Option.some.inj e1
    · subst q
      rw [impl_at hf hl2] at e2; exact (Option.some.inj e2).symm
  rw [e1, e2, this]
  simp only [Option.bind_some, eq_same, if_true]
end FnExactReadFate
end Go.Proofs.YtpioljlgmhehhaaDoor.Wm
