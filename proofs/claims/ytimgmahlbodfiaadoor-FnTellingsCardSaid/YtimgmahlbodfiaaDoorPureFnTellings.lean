/- What FnTellings comes to on plain values: true. -/
import Derived.Test.YtimgmahlbodfiaaDoorFnFnTellings
set_option linter.unusedSimpArgs false
set_option linter.unusedVariables false
set_option maxRecDepth 100000
namespace Go.Proofs.YtimgmahlbodfiaaDoor.Wm
open Go
namespace FnTellings
theorem spec_l1In_eq {a b c : Int} : spec_l1In a b c = decide (b ≤ a ∧ a ≤ c) := by
  simp only [spec_l1In, spec_l1In_u1, decide_eq_true_eq]
  by_cases h1 : b ≤ a <;> by_cases h2 : a ≤ c <;> simp [h1, h2]
theorem impl_inRange_eq {a b c : Int} : impl_inRange a b c = decide (b ≤ a ∧ a ≤ c) := by
  simp only [impl_inRange, impl_inRange_u1, decide_eq_true_eq]
  by_cases h1 : b ≤ a <;> by_cases h2 : a ≤ c <;> simp [h1, h2]
def firstL : List Int → Int
  | [] => 0
  | x :: l => if x ≠ 0 then x else firstL l
theorem firstL_skip : ∀ {i : Nat} {l : List Int}, (∀ j x, j < i → l[j]? = some x → x = 0) → firstL l = firstL (l.drop i)
  | 0, l, h => by simp
  | i + 1, [], h => by simp
  | i + 1, x :: l, h => by
    have := h 0 x (by omega) rfl
    subst this
    simp only [firstL, ne_eq, not_true, if_false, List.drop_succ_cons]
    exact firstL_skip fun j x hj hx => h (j + 1) x (by omega) (by simpa using hx)
theorem impl_first_eq {l : List Int} (hl : (l.length : Int) ≤ maxI) : impl_first l = some (firstL l) := by
  unfold maxI at hl
  unfold impl_first
  obtain ⟨t, h1, h2⟩ := loop_rule (step := impl_first_s1 l (l.length : Int)) (fun i s => s = (i : Int) ∧ ∀ j x, j < i → l[j]? = some x → x = 0)
      (fun t => (t = .inl () ∧ firstL l = 0) ∨ (t = .inr (firstL l))) l.length (by
    rintro i s hi ⟨rfl, hj⟩
    simp only [impl_first_s1, decide_eq_true_eq]
    rcases Nat.lt_or_ge i l.length with h | h
    · obtain ⟨x, hx, hm⟩ := get_lt h
      rw [if_pos (by omega), getI_nat, hx, w64 (by omega)]
      simp only [Option.bind_some, bne_iff_ne, ne_eq]
      by_cases hp : x = 0
      · left
        rw [if_neg (by simp [hp])]
        refine ⟨h, _, rfl, by simp, fun j y hj' hy => ?_⟩
        rcases Nat.lt_or_ge j i with hji | hji
        · exact hj j y hji hy
        · obtain rfl : j = i := by omega
          rw [hx] at hy; obtain rfl := Option.some.inj hy; exact hp
      · right
        rw [if_pos hp]
        refine ⟨_, rfl, .inr ?_⟩
        rw [firstL_skip hj, List.drop_eq_getElem_cons h, firstL]
        have : l[i] = x := by rw [List.getElem?_eq_getElem h] at hx; exact Option.some.inj hx
        rw [this, if_pos hp]
    · right
      rw [if_neg (by omega)]
      refine ⟨_, rfl, .inl ⟨rfl, ?_⟩⟩
      rw [firstL_skip hj, List.drop_eq_nil_of_le h]; rfl) (s := 0) ⟨rfl, fun j x hj => by omega⟩
  rw [h1]
  rcases h2 with ⟨rfl, h⟩ | rfl
  · simp [h]
  · simp
theorem impl_codeIf_eq {b : Bool} {c : Int} : impl_codeIf b c = if b = true then c else 0 := rfl
theorem fate_same {f : SFate} : impl_FateFault f = some (spec_FateFault f) := by
  obtain ⟨k, d, a, b⟩ := f
  have hf : ∀ a b : Int, impl_first [a, b] = some (firstL [a, b]) := fun a b => impl_first_eq (by simp [maxI])
  unfold impl_FateFault impl_FateFault_u1 impl_FateFault_u2 impl_FateFault_u3 spec_FateFault spec_FateFault_u1 spec_FateFault_u2
  simp only [hf, impl_codeIf_eq, impl_inRange_eq, spec_l1In_eq, Option.bind_some, firstL]
  by_cases h3 : k = 3
  · subst h3
    by_cases h5 : 0 ≤ d ∧ d ≤ 6 <;> by_cases h6 : 0 ≤ a ∧ a ≤ 1279 <;> by_cases h7 : 1 ≤ b ∧ b ≤ 65535 <;> simp [h5, h6, h7]
  · by_cases h0 : k = 0
    · subst h0
      by_cases h5 : 0 ≤ d ∧ d ≤ 6 <;> by_cases h6 : a = 0 <;> by_cases h7 : b = 0 <;> by_cases h8 : d = 0 <;> simp [h5, h6, h7, h8]
    · by_cases h1 : 0 ≤ k ∧ k ≤ 3 <;> by_cases h5 : 0 ≤ d ∧ d ≤ 6 <;> by_cases h6 : a = 0 <;> by_cases h7 : b = 0 <;> simp [h0, h1, h3, h5, h6, h7]
theorem fate_ok {f : SFate} (h : spec_FateFault f = 0) : (0 ≤ f.Kind ∧ f.Kind ≤ 3) ∧ (0 ≤ f.Delay ∧ f.Delay ≤ 6) ∧ (f.Kind = 3 → (0 ≤ f.At ∧ f.At ≤ 1279) ∧ 1 ≤ f.Bits ∧ f.Bits ≤ 65535) := by
  obtain ⟨k, d, a, b⟩ := f
  unfold spec_FateFault spec_FateFault_u1 spec_FateFault_u2 at h
  simp only [spec_l1In_eq] at h
  simp only
  by_cases h1 : 0 ≤ k ∧ k ≤ 3
  · by_cases h5 : 0 ≤ d ∧ d ≤ 6
    · refine ⟨h1, h5, fun h3 => ?_⟩
      subst h3
      by_cases h6 : 0 ≤ a ∧ a ≤ 1279 <;> by_cases h7 : 1 ≤ b ∧ b ≤ 65535 <;> simp [h5, h6, h7] at h
      exact ⟨h6, h7⟩
    · exfalso
      simp only [decide_eq_true h1, decide_eq_false h5, if_true] at h
      revert h
      simp only [Bool.false_eq_true, if_false, if_true]
      generalize (if (k == 0) = true then _ else _ : Bool × Bool) = q
      cases q.2 <;> simp
  · exfalso
    simp [h1] at h
theorem dec_len : ∀ u : Nat, (Lib.decDigits u).length ≤ u + 1 := by
  intro u
  induction u using Nat.strongRecOn with
  | ind u ih =>
    rw [Lib.decDigits]
    split
    · simp
    · rename_i h
      have := ih (u / 10) (by omega)
      simp only [List.length_append, List.length_cons, List.length_nil]; omega
theorem digits_eq : ∀ (k : Nat) (n : Nat), n < 10 ^ (k + 1) → n ≤ 1000000000 → spec_l1Digits (k + 1) (n : Int) = some (Lib.decDigits n)
  | k, n, h, hs => by
    rw [spec_l1Digits, Lib.decDigits]
    unfold spec_l1Digits_b spec_l1Digits_u1
    rw [if_neg (by simp)]
    by_cases h1 : n < 10
    · rw [if_pos (by simp; omega), dif_pos h1, w64 (by omega), wu8 (by omega), bytesI_eq]
      simp only [Option.bind_some, List.map_cons, List.map_nil]
      congr 3
    · rw [if_neg (by simp; omega), dif_neg h1]
      have e1 : IntKind.i64.wrap ((n : Int).tdiv 10) = ((n / 10 : Nat) : Int) := by rw [Int.tdiv_eq_ediv_of_nonneg (by omega), w64 (by omega)]; omega
      have e2 : (n : Int).tmod 10 = ((n % 10 : Nat) : Int) := by rw [Int.tmod_eq_emod_of_nonneg (by omega)]; omega
      have hl := dec_len (n / 10)
      obtain ⟨j, rfl⟩ : ∃ j, k = j + 1 := by
        cases k with
        | zero => exact absurd (by simpa using h) h1
        | succ j => exact ⟨j, rfl⟩
      rw [e1, e2, digits_eq j (n / 10) (by rw [Nat.pow_succ] at h; omega) (by omega), w64 (by omega), wu8 (by omega), bytesI_eq]
      simp only [Option.bind_some, List.map_cons, List.map_nil]
      rw [if_pos (by simp; omega)]
      congr 4
def isD (c : UInt8) : Bool := decide (48 ≤ c.toNat ∧ c.toNat ≤ 57)
def valD (a : Nat) (l : List UInt8) : Nat := l.foldl (fun a c => a * 10 + (c.toNat - 48)) a
theorem valD_nil {a : Nat} : valD a [] = a := rfl
theorem valD_cons {a : Nat} {c : UInt8} {l : List UInt8} : valD a (c :: l) = valD (a * 10 + (c.toNat - 48)) l := by simp only [valD, List.foldl_cons]
theorem valD_app (l : List UInt8) (a : Nat) (c : UInt8) : valD a (l ++ [c]) = valD a l * 10 + (c.toNat - 48) := by
  simp only [valD, List.foldl_append, List.foldl_cons, List.foldl_nil]
theorem ofNat_dig {n : Nat} (h : n < 10) : (UInt8.ofNat (48 + n)).toNat = 48 + n := by
  rw [UInt8.toNat_ofNat']; omega
theorem dec_dig : ∀ u : Nat, (Lib.decDigits u).all isD = true := by
  intro u
  induction u using Nat.strongRecOn with
  | ind u ih =>
    rw [Lib.decDigits]
    split
    · rename_i h
      simp only [List.all_cons, List.all_nil, Bool.and_true, isD, ofNat_dig h]
      exact decide_eq_true (by omega)
    · rename_i h
      simp only [List.all_append, ih (u / 10) (by omega), Bool.true_and, List.all_cons, List.all_nil, Bool.and_true, isD, ofNat_dig (show u % 10 < 10 by omega)]
      exact decide_eq_true (by omega)
theorem dec_val : ∀ u : Nat, valD 0 (Lib.decDigits u) = u := by
  intro u
  induction u using Nat.strongRecOn with
  | ind u ih =>
    rw [Lib.decDigits]
    split
    · rename_i h
      rw [valD_cons, valD_nil, ofNat_dig h]; omega
    · rename_i h
      rw [valD_app, ih (u / 10) (by omega), ofNat_dig (show u % 10 < 10 by omega)]; omega
theorem isD_iff {c : UInt8} : isD c = true ↔ 48 ≤ c.toNat ∧ c.toNat ≤ 57 := by simp [isD]
theorem valD_lt : ∀ (l : List UInt8) (a k : Nat), a + 1 ≤ 10 ^ k → l.all isD = true → valD a l + 1 ≤ 10 ^ (k + l.length)
  | [], a, k, h, _ => by rw [valD_nil]; exact h
  | c :: l, a, k, h, hd => by
    simp only [List.all_cons, Bool.and_eq_true, isD_iff] at hd
    have := valD_lt l (a * 10 + (c.toNat - 48)) (k + 1) (by rw [Nat.pow_succ]; omega) hd.2
    rw [List.length_cons, show k + (l.length + 1) = k + 1 + l.length by omega, valD_cons]
    exact this
theorem ten7 : ∀ {k : Nat}, k ≤ 7 → 10 ^ k ≤ 10000000 := by
  intro k hk
  have : 10 ^ k ≤ 10 ^ 7 := Nat.pow_le_pow_right (by omega) hk
  omega
theorem parse_small : ∀ (l : List UInt8) (a k : Nat), a + 1 ≤ 10 ^ k → k + l.length ≤ 7 → l.all isD = true → Lib.parseUintM (2 ^ 64 - 1) a l = .ok (valD a l)
  | [], a, k, h, _, _ => rfl
  | c :: l, a, k, h, hk, hd => by
    simp only [List.all_cons, Bool.and_eq_true, isD_iff] at hd
    simp only [List.length_cons] at hk
    have h7 := ten7 (k := k) (by omega)
    have ih := parse_small l (a * 10 + (c.toNat - 48)) (k + 1) (by rw [Nat.pow_succ]; omega) (by omega) hd.2
    rw [Lib.parseUintM, if_pos hd.1, if_neg (by omega), if_neg (by omega), ih, valD_cons]
def sgn (neg : Bool) (u : Nat) : Int := if neg = true then -(u : Int) else u
theorem digitsI {v : Int} (h : -9999999 ≤ v ∧ v ≤ 9999999) : spec_l1Digits 64 v = some (Lib.itoa v) := by
  by_cases hv : v < 0
  · rw [spec_l1Digits]
    unfold spec_l1Digits_b
    rw [if_pos (by simpa using hv), w64 (by omega)]
    have e : (0 : Int) - v = ((v.natAbs : Nat) : Int) := by omega
    have hl := dec_len v.natAbs
    rw [e, digits_eq 62 v.natAbs (Nat.lt_of_le_of_lt (show v.natAbs ≤ 9999999 by omega) (by decide)) (by omega)]
    simp only [Option.bind_some]
    rw [if_pos (by simp; omega)]
    unfold Lib.itoa
    rw [if_pos hv]; rfl
  · have := digits_eq 63 v.toNat (Nat.lt_of_le_of_lt (show v.toNat ≤ 9999999 by omega) (by decide)) (by omega)
    rw [Int.toNat_of_nonneg (by omega)] at this
    rw [this]
    unfold Lib.itoa
    rw [if_neg hv]
theorem scan {p : List UInt8} {f : Int} (hp : p.length ≤ 1048576) : ∀ (rest pre : List UInt8) (acc j : Nat), p = pre ++ rest → acc + 1 ≤ 10 ^ j → j + rest.length ≤ 7 →
    loopO (spec_ReadNumber_s6 64 p f) ((acc : Int), (pre.length : Int)) = some (if rest.all isD = true then .inl (valD acc rest : Int) else .inr ())
  | [], pre, acc, j, e, ha, hj => by
    have hl : p.length = pre.length := by rw [e]; simp
    rw [loopO_eq]
    simp only [spec_ReadNumber_s6, decide_eq_true_eq]
    rw [if_neg (by omega)]
    simp [valD_nil]
  | c :: rest, pre, acc, j, e, ha, hj => by
    have hl : p.length = pre.length + (rest.length + 1) := by rw [e]; simp
    simp only [List.length_cons] at hj
    have h7 := ten7 (k := j) (by omega)
    have hc : p[pre.length]? = some c := by rw [e]; simp
    have hb : c.toNat < 256 := c.toNat_lt
    rw [loopO_eq]
    simp only [spec_ReadNumber_s6, spec_ReadNumber_u5, decide_eq_true_eq, getI_nat, hc, Option.bind_some]
    rw [if_pos (by omega)]
    by_cases hd : 48 ≤ c.toNat ∧ c.toNat ≤ 57
    · have ih := scan (f := f) hp rest (pre ++ [c]) (acc * 10 + (c.toNat - 48)) (j + 1) (by rw [e]; simp) (by rw [Nat.pow_succ]; omega) (by omega)
      rw [if_neg (by omega)]
      simp only [Option.bind_some, decide_eq_true_eq]
      rw [if_neg (by omega), wu8 (by omega), w64 (n := (c.toNat : Int) - 48) (by omega), w64 (n := (acc : Int) * 10) (by omega), w64 (n := (acc : Int) * 10 + ((c.toNat : Int) - 48)) (by omega), w64 (n := (pre.length : Int) + 1) (by omega)]
      have e1 : (acc : Int) * 10 + ((c.toNat : Int) - 48) = ((acc * 10 + (c.toNat - 48) : Nat) : Int) := by omega
      have e2 : (pre.length : Int) + 1 = ((pre ++ [c]).length : Int) := by simp
      rw [e1, e2]
      simp only []
      rw [ih]
      simp only [List.all_cons, isD_iff.2 hd, Bool.true_and, valD_cons]
    · have hf : (c :: rest).all isD = false := by
        simp only [List.all_cons]
        have : isD c = false := by simpa [isD] using hd
        rw [this]; rfl
      rw [hf]
      by_cases h1 : (c.toNat : Int) < 48
      · rw [if_pos h1]
        simp
      · rw [if_neg h1]
        have : (c.toNat : Int) > 57 := by omega
        simp [this]
def bodyOf (c : UInt8) (r : List UInt8) : List UInt8 := if c.toNat = 45 then r else c :: r
theorem spec_form {c : UInt8} {r : List UInt8} (hp : (c :: r).length ≤ 1048576) : spec_ReadNumber 64 (c :: r) = some (if 1 ≤ (bodyOf c r).length ∧ (bodyOf c r).length ≤ 7 ∧ (bodyOf c r).all isD = true ∧ Lib.itoa (sgn (decide (c.toNat = 45)) (valD 0 (bodyOf c r))) = c :: r then ⟨0, sgn (decide (c.toNat = 45)) (valD 0 (bodyOf c r))⟩ else ⟨5, 0⟩) := by
  have hlen : (c :: r).length = r.length + 1 := rfl
  have fin : ∀ (f : Int) (pre : List UInt8), f = (if c.toNat = 45 then 1 else 0) → c :: r = pre ++ bodyOf c r → (pre.length : Int) = f → (bodyOf c r).length ≤ 7 → 1 ≤ (bodyOf c r).length →
      ((loopO (spec_ReadNumber_s6 64 (c :: r) f) ((0 : Int), f)).bind fun t => (Sum.elim (fun y42 => let y46 := spec_ReadNumber_u7 64 (c :: r) y42 (f == 1)
      (spec_l1Digits 64 y46).bind fun r47 =>
      if (r47 == (c :: r)) = true then some ((SIntResult.mk 0 y46))
      else some ((SIntResult.mk 5 0)))
     (fun y48 => some ((SIntResult.mk 5 0)))) t) = some (if 1 ≤ (bodyOf c r).length ∧ (bodyOf c r).length ≤ 7 ∧ (bodyOf c r).all isD = true ∧ Lib.itoa (sgn (decide (c.toNat = 45)) (valD 0 (bodyOf c r))) = c :: r then ⟨0, sgn (decide (c.toNat = 45)) (valD 0 (bodyOf c r))⟩ else ⟨5, 0⟩) := by
    intro f pre hf hpre hpl h7 h1
    have := scan (f := f) hp (bodyOf c r) pre 0 0 hpre (by simp) (by omega)
    rw [hpl] at this
    have e0 : ((0 : Nat) : Int) = 0 := rfl
    rw [e0] at this
    rw [this]
    simp only [Option.bind_some]
    cases hd : (bodyOf c r).all isD with
    | false => simp
    | true =>
      have hv := valD_lt (bodyOf c r) 0 0 (by simp) hd
      have ht := ten7 (k := 0 + (bodyOf c r).length) (by omega)
      have hs : spec_ReadNumber_u7 64 (c :: r) (valD 0 (bodyOf c r) : Int) (f == 1) = sgn (decide (c.toNat = 45)) (valD 0 (bodyOf c r)) := by
        unfold spec_ReadNumber_u7 sgn
        by_cases hn : c.toNat = 45
        · rw [if_pos hn] at hf
          subst hf
          rw [if_pos (by rfl), if_pos (by simp [hn]), w64 (by omega)]; omega
        · rw [if_neg hn] at hf
          subst hf
          rw [if_neg (by decide), if_neg (by simp [hn])]
      have hb : -9999999 ≤ sgn (decide (c.toNat = 45)) (valD 0 (bodyOf c r)) ∧ sgn (decide (c.toNat = 45)) (valD 0 (bodyOf c r)) ≤ 9999999 := by
        unfold sgn
        split <;> omega
      simp only [if_true, Sum.elim_inl, hs, digitsI hb, Option.bind_some, h1, h7, true_and, beq_iff_eq]
      split <;> rfl
  unfold spec_ReadNumber spec_ReadNumber_u1 spec_ReadNumber_u2 spec_ReadNumber_u3
  rw [if_pos (decide_eq_true (by omega))]
  have g0 : getI (c :: r) 0 = some c := rfl
  rw [g0]
  simp only [Option.bind_some, decide_eq_true_eq]
  by_cases hn : c.toNat = 45
  · have e1 : ((c.toNat : Int) == 45) = true := by simp; omega
    rw [e1]
    simp only [if_true]
    have hbody : bodyOf c r = r := by unfold bodyOf; rw [if_pos hn]
    rw [w64 (by simp; omega)]
    by_cases ha : ((c :: r).length : Int) - 1 < 1
    · rw [if_pos ha]
      have : ¬ (1 ≤ (bodyOf c r).length) := by rw [hbody]; omega
      simp [this]
    · rw [if_neg ha]
      by_cases hb : ((c :: r).length : Int) - 1 > 7
      · rw [if_pos (by simpa using hb)]
        have : ¬ ((bodyOf c r).length ≤ 7) := by rw [hbody]; omega
        simp [this]
      · rw [if_neg (by simpa using hb)]
        exact fin 1 [c] (by rw [if_pos hn]) (by rw [hbody]; rfl) rfl (by rw [hbody]; omega) (by rw [hbody]; omega)
  · have e1 : ((c.toNat : Int) == 45) = false := by simp; omega
    rw [e1]
    simp only [Bool.false_eq_true, if_false]
    have hbody : bodyOf c r = c :: r := by unfold bodyOf; rw [if_neg hn]
    rw [w64 (by simp; omega)]
    by_cases ha : ((c :: r).length : Int) - 0 < 1
    · omega
    · rw [if_neg ha]
      by_cases hb : ((c :: r).length : Int) - 0 > 7
      · rw [if_pos (by simpa using hb)]
        have : ¬ ((bodyOf c r).length ≤ 7) := by rw [hbody]; omega
        simp [this]
      · rw [if_neg (by simpa using hb)]
        exact fin 0 [] (by rw [if_neg hn]) (by rw [hbody]; rfl) rfl (by rw [hbody]; omega) (by rw [hbody]; omega)
theorem u8_45 {c : UInt8} : c.toNat = 45 ↔ c = 45 := ⟨fun h => UInt8.toNat_inj.1 (by rw [h]; rfl), fun h => by rw [h]; rfl⟩
theorem trim_eq {c : UInt8} {r : List UInt8} (hp : (c :: r).length ≤ 1048576) : strings_TrimPrefix (c :: r) [45] = some (bodyOf c r) := by
  have hl : (c :: r).length = r.length + 1 := rfl
  have s1 : subI (c :: r) 0 (([45] : List UInt8).length : Int) = some [c] := by
    unfold subI cutI
    rw [if_pos (by simp; omega)]; simp
  have s2 : subI (c :: r) (([45] : List UInt8).length : Int) ((c :: r).length : Int) = some r := by
    unfold subI cutI
    rw [if_pos (by simp; omega), if_pos (by simp; omega)]; simp
  unfold strings_TrimPrefix internal_stringslite_TrimPrefix internal_stringslite_HasPrefix internal_stringslite_HasPrefix_u1 bodyOf
  rw [if_pos (decide_eq_true (by simp; omega)), s1, s2]
  simp only [Option.bind_some]
  by_cases h : c.toNat = 45
  · have h' := u8_45.1 h
    subst h'
    simp
  · have h' : ¬ (c = 45) := fun e => h (u8_45.2 e)
    have : ([c] == [(45 : UInt8)]) = false := by simp [h']
    rw [this]
    simp [h]
theorem parse_bound {p : List UInt8} (h : (parseI p).2 = true) : okI64 (parseI p).1 = true := by
  unfold parseI at h ⊢
  rcases hp : Lib.parseIntB 64 p with v | _ | _
  · have := Lib.parseIntB_bounds hp
    simp only
    exact decide_eq_true (by omega)
  · rw [hp] at h; simp at h
  · rw [hp] at h; simp at h
theorem numbers {c : UInt8} {r : List UInt8} {v : Int} (h1 : 1 ≤ (bodyOf c r).length) (h7 : (bodyOf c r).length ≤ 7) (hd : (bodyOf c r).all isD = true) (hv : v = sgn (decide (c.toNat = 45)) (valD 0 (bodyOf c r))) : parseI (c :: r) = (v, true) := by
  have hu : Lib.parseUintB 64 (bodyOf c r) = .ok (valD 0 (bodyOf c r)) := by
    unfold Lib.parseUintB
    rw [if_neg (fun e => by rw [e] at h1; simp at h1)]
    exact parse_small _ 0 0 (by simp) (by omega) hd
  have hlt := valD_lt (bodyOf c r) 0 0 (by simp) hd
  have ht := ten7 (k := 0 + (bodyOf c r).length) (by omega)
  have hp : Lib.parseIntB 64 (c :: r) = .ok v := by
    by_cases h : c.toNat = 45
    · have h' := u8_45.1 h
      subst h'
      have hb : bodyOf 45 r = r := by unfold bodyOf; rw [if_pos h]
      rw [hb] at hu hlt ht hv
      rw [Lib.parseIntB_minus, hu]
      unfold Lib.signedC
      simp only
      rw [if_neg (by omega), hv]
      simp [sgn]
    · have hb : bodyOf c r = c :: r := by unfold bodyOf; rw [if_neg h]
      rw [hb] at hu hlt ht hv hd
      simp only [List.all_cons, Bool.and_eq_true, isD_iff] at hd
      rw [Lib.parseIntB_plain 64 c r (by omega) h, hu]
      unfold Lib.signlessC
      simp only
      rw [if_neg (by omega), hv]
      simp [sgn, h]
  unfold parseI
  rw [hp]
theorem spelled {c : UInt8} {r : List UInt8} {n : Int} (h : Lib.itoa n = c :: r) : 1 ≤ (bodyOf c r).length ∧ (bodyOf c r).all isD = true ∧ sgn (decide (c.toNat = 45)) (valD 0 (bodyOf c r)) = n := by
  have pos : ∀ u, 1 ≤ (Lib.decDigits u).length := fun u => by
    rw [Lib.decDigits]
    split <;> simp
  unfold Lib.itoa at h
  by_cases hn : n < 0
  · rw [if_pos hn] at h
    obtain ⟨rfl, rfl⟩ : 45 = c ∧ Lib.decDigits n.natAbs = r := by simpa using h
    have hb : bodyOf 45 (Lib.decDigits n.natAbs) = Lib.decDigits n.natAbs := by unfold bodyOf; rw [if_pos (show (45 : UInt8).toNat = 45 from rfl)]
    rw [hb, dec_val]
    refine ⟨pos _, dec_dig _, ?_⟩
    have : (decide ((45 : UInt8).toNat = 45)) = true := rfl
    rw [this]
    simp only [sgn, if_true]; omega
  · rw [if_neg hn] at h
    have hd := dec_dig n.toNat
    have hv := dec_val n.toNat
    rw [h] at hd hv
    have hc : ¬ c.toNat = 45 := by
      simp only [List.all_cons, Bool.and_eq_true, isD_iff] at hd
      omega
    have hb : bodyOf c r = c :: r := by unfold bodyOf; rw [if_neg hc]
    rw [hb, hv]
    refine ⟨by simp, hd, ?_⟩
    rw [decide_eq_false hc]
    simp only [sgn, Bool.false_eq_true, if_false]; omega
theorem num_form {c : UInt8} {r : List UInt8} (hp : (c :: r).length ≤ 1048576) : impl_number (c :: r) = some ((parseI (c :: r)).1, decide ((parseI (c :: r)).2 = true ∧ Lib.itoa (parseI (c :: r)).1 = c :: r ∧ (bodyOf c r).length ≤ 7)) := by
  unfold impl_number impl_number_u1 impl_decimal strconv_ParseInt strconv_FormatInt
  rw [if_pos (show okParse (c :: r) 10 64 = true from decide_eq_true ⟨by omega, rfl, rfl⟩)]
  simp only [Option.bind_some]
  cases h2 : (parseI (c :: r)).2 with
  | false => simp
  | true =>
    have hb := parse_bound h2
    simp only [if_true, hb, true_and, Option.bind_some, beq_iff_eq]
    by_cases he : Lib.itoa (parseI (c :: r)).1 = c :: r
    · rw [if_pos he, trim_eq hp]
      simp only [Option.bind_some, he, true_and]
      congr 2
      by_cases hl : (bodyOf c r).length ≤ 7
      · rw [decide_eq_true hl, decide_eq_true (by omega)]
      · rw [decide_eq_false hl, decide_eq_false (by omega)]
    · rw [if_neg he]
      simp [he]
theorem num_nil : impl_number [] = some ((parseI []).1, false) := rfl
theorem impl_formN {c : UInt8} {r : List UInt8} (hp : (c :: r).length ≤ 1048576) : impl_ReadNumber (c :: r) = some (if (parseI (c :: r)).2 = true ∧ Lib.itoa (parseI (c :: r)).1 = c :: r ∧ (bodyOf c r).length ≤ 7 then ⟨0, (parseI (c :: r)).1⟩ else ⟨5, 0⟩) := by
  unfold impl_ReadNumber impl_number impl_number_u1 impl_decimal strconv_ParseInt strconv_FormatInt
  rw [if_pos (show okParse (c :: r) 10 64 = true from decide_eq_true ⟨by omega, rfl, rfl⟩)]
  simp only [Option.bind_some]
  cases h2 : (parseI (c :: r)).2 with
  | false => simp
  | true =>
    have hb := parse_bound h2
    simp only [if_true, hb, true_and, Option.bind_some, beq_iff_eq]
    by_cases he : Lib.itoa (parseI (c :: r)).1 = c :: r
    · rw [if_pos he, trim_eq hp]
      simp only [Option.bind_some, he, true_and, decide_eq_true_eq]
      by_cases hl : (bodyOf c r).length ≤ 7
      · rw [if_pos (by omega), if_pos hl]
      · rw [if_neg (by omega), if_neg hl]
    · rw [if_neg he]
      simp [he]
theorem number_eq {p : List UInt8} (hp : p.length ≤ 1048576) : spec_ReadNumber 64 p = impl_ReadNumber p ∧ ∃ r, impl_ReadNumber p = some r := by
  match p with
  | [] => exact ⟨rfl, _, rfl⟩
  | c :: r =>
    rw [spec_form hp, impl_formN hp]
    refine ⟨?_, _, rfl⟩
    congr 1
    by_cases hs : 1 ≤ (bodyOf c r).length ∧ (bodyOf c r).length ≤ 7 ∧ (bodyOf c r).all isD = true ∧ Lib.itoa (sgn (decide (c.toNat = 45)) (valD 0 (bodyOf c r))) = c :: r
    · rw [if_pos hs]
      obtain ⟨h1, h7, hd, hi⟩ := hs
      rw [numbers h1 h7 hd rfl]
      rw [if_pos ⟨rfl, hi, h7⟩]
    · rw [if_neg hs, if_neg]
      rintro ⟨q1, q2, q3⟩
      obtain ⟨e1, e2, e3⟩ := spelled q2
      exact hs ⟨e1, q3, e2, by rw [e3]; exact q2⟩
def cutAux (c : UInt8) : List UInt8 → List UInt8 → List (List UInt8)
  | mid, [] => [mid]
  | mid, b :: t => if b = c then mid :: cutAux c [] t else cutAux c (mid ++ [b]) t
theorem cutAux_nil {c : UInt8} {mid : List UInt8} : cutAux c mid [] = [mid] := by rw [cutAux]
theorem cutAux_hit {c : UInt8} {mid t : List UInt8} : cutAux c mid (c :: t) = mid :: cutAux c [] t := by rw [cutAux, if_pos rfl]
theorem cutAux_miss {c b : UInt8} {mid t : List UInt8} (h : b ≠ c) : cutAux c mid (b :: t) = cutAux c (mid ++ [b]) t := by rw [cutAux, if_neg h]
theorem cutAux_len (c : UInt8) : ∀ (s mid : List UInt8), 1 ≤ (cutAux c mid s).length ∧ (cutAux c mid s).length ≤ s.length + 1
  | [], mid => by rw [cutAux_nil]; simp
  | b :: t, mid => by
    by_cases h : b = c
    · subst h
      have := cutAux_len b t []
      rw [cutAux_hit]; simp only [List.length_cons]; omega
    · have := cutAux_len c t (mid ++ [b])
      rw [cutAux_miss h]; simp only [List.length_cons]; omega
theorem indexByte_at (c : UInt8) (t : List UInt8) : ∀ (mid : List UInt8), (∀ x ∈ mid, x ≠ c) → Lib.indexByte (mid ++ c :: t) c = (mid.length : Int)
  | [], _ => by simp [Lib.indexByte]
  | b :: mid, h => by
    have hb : (b == c) = false := by simpa using h b (by simp)
    have ih := indexByte_at c t mid (fun x hx => h x (by simp [hx]))
    simp only [List.cons_append, Lib.indexByte, hb, ih]
    have : ((mid.length : Int) == -1) = false := by simp
    rw [this]
    simp
theorem split_cut (c : UInt8) : ∀ (s mid : List UInt8), (∀ x ∈ mid, x ≠ c) → Lib.splitK [c] 0 (Lib.count (mid ++ s) [c]) (mid ++ s) = cutAux c mid s
  | [], mid, h => by
    have : Lib.count (mid ++ []) [c] = 0 := by
      rw [Lib.count_one, List.append_nil]
      exact List.count_eq_zero.2 fun hm => h c hm rfl
    rw [this, cutAux_nil, List.append_nil]; rfl
  | b :: t, mid, h => by
    by_cases hb : b = c
    · subst hb
      have hc : Lib.count (mid ++ b :: t) [b] = Lib.count t [b] + 1 := by
        rw [Lib.count_one, Lib.count_one, List.count_append, List.count_cons_self, List.count_eq_zero.2 fun hm => h b hm rfl]; omega
      have hi : Lib.index (mid ++ b :: t) [b] = (mid.length : Int) := by rw [Lib.index_one]; exact indexByte_at b t mid h
      have ih := split_cut b t [] (by simp)
      rw [List.nil_append] at ih
      rw [hc, cutAux_hit, Lib.splitK, hi, if_neg (by simp), Int.toNat_natCast]
      rw [show mid.length + 0 = mid.length from rfl, List.take_left, show mid.length + [b].length = (mid ++ [b]).length by simp, show mid ++ b :: t = (mid ++ [b]) ++ t by simp, List.drop_left, ih]
    · have ih := split_cut c t (mid ++ [b]) (by
        intro x hx
        rcases List.mem_append.1 hx with hx | hx
        · exact h x hx
        · rw [List.mem_singleton] at hx; subst hx; exact hb)
      rw [cutAux_miss hb, ← ih]; simp
theorem splitL_cut {p : List UInt8} {c : UInt8} : splitL p [c] = cutAux c [] p := by
  unfold splitL
  rw [Lib.splitB_data]
  exact split_cut c p [] (by simp)
theorem subI_mid {pre mid rest : List UInt8} (h : (pre ++ mid ++ rest).length ≤ 1048576) : subI (pre ++ mid ++ rest) (pre.length : Int) ((pre.length + mid.length : Nat) : Int) = some mid := by
  unfold subI cutI
  rw [if_pos (by simp; omega), if_pos (by omega)]
  simp only [Option.map_some, Int.toNat_natCast, Nat.add_sub_cancel_left, List.append_assoc, List.drop_left, List.take_left]
theorem cut_loop {p : List UInt8} {c : UInt8} (hp : p.length ≤ 1048576) : ∀ (rest pre mid : List UInt8) (out : List (List UInt8)), p = pre ++ mid ++ rest → out.length ≤ pre.length + mid.length →
    loopO (spec_l1Cut_s7 p (c.toNat : Int)) (out, (pre.length : Int), ((pre.length + mid.length : Nat) : Int)) = some (out ++ cutAux c mid rest)
  | [], pre, mid, out, e, ho => by
    have hl : p.length = pre.length + mid.length := by rw [e]; simp
    have hs : subI p (pre.length : Int) ((pre.length + mid.length : Nat) : Int) = some mid := by rw [e]; exact subI_mid (by rw [← e]; exact hp)
    rw [loopO_eq]
    simp only [spec_l1Cut_s7, spec_l1Cut_u6, spec_l1Cut_u4, spec_l1Cut_u5, decide_eq_true_eq]
    rw [if_pos (by omega), if_pos (by simp; omega)]
    simp only [Option.bind_some, if_true, hs]
    rw [if_pos (okApp_of (by simp; omega)), w64 (by omega)]
    simp only [Option.bind_some]
    rw [loopO_eq]
    simp only [spec_l1Cut_s7, decide_eq_true_eq]
    rw [if_neg (by omega)]
    simp only [cutAux_nil]
  | b :: rest, pre, mid, out, e, ho => by
    have hl : p.length = pre.length + mid.length + (rest.length + 1) := by rw [e]; simp; omega
    have hs : subI p (pre.length : Int) ((pre.length + mid.length : Nat) : Int) = some mid := by rw [e]; exact subI_mid (by rw [← e]; exact hp)
    have hg : p[pre.length + mid.length]? = some b := by rw [e]; simp
    rw [loopO_eq]
    simp only [spec_l1Cut_s7, spec_l1Cut_u6, spec_l1Cut_u4, spec_l1Cut_u5, decide_eq_true_eq]
    rw [if_pos (by omega), if_neg (by simp; omega), getI_nat, hg]
    simp only [Option.bind_some, hs]
    by_cases hb : b = c
    · subst hb
      have ih := cut_loop (c := b) hp rest (pre ++ mid ++ [b]) [] (out ++ [mid]) (by rw [e]; simp) (by simp; omega)
      have e1 : ((pre ++ mid ++ [b]).length : Int) = ((pre.length + mid.length : Nat) : Int) + 1 := by simp; omega
      have e2 : (((pre ++ mid ++ [b]).length + ([] : List UInt8).length : Nat) : Int) = ((pre.length + mid.length : Nat) : Int) + 1 := by simp; omega
      rw [e1, e2] at ih
      simp only [beq_self_eq_true, if_true]
      rw [if_pos (okApp_of (by simp; omega)), w64 (by omega)]
      simp only [Option.bind_some, ih, cutAux_hit]
      simp
    · have hn : ((b.toNat : Int) == (c.toNat : Int)) = false := by
        simp only [beq_eq_false_iff_ne, ne_eq]
        intro q; exact hb (UInt8.toNat_inj.1 (by omega))
      have ih := cut_loop (c := c) hp rest pre (mid ++ [b]) out (by rw [e]; simp) (by simp; omega)
      have e1 : ((pre.length + (mid ++ [b]).length : Nat) : Int) = ((pre.length + mid.length : Nat) : Int) + 1 := by simp; omega
      rw [e1] at ih
      rw [hn]
      simp only [Bool.false_eq_true, if_false, Option.bind_some]
      rw [w64 (by omega), ih, cutAux_miss hb]
theorem l1Cut_eq {p : List UInt8} {c : UInt8} (hp : p.length ≤ 1048576) : spec_l1Cut p (c.toNat : Int) = some (cutAux c [] p) := by
  unfold spec_l1Cut
  have := cut_loop (c := c) hp p [] [] [] (by simp) (by simp)
  simp only [List.length_nil, List.nil_append] at this
  have e : loopO (spec_l1Cut_s7 p (c.toNat : Int)) ([], 0, 0) = some (cutAux c [] p) := this
  rw [e]; rfl
theorem words_eq {l : List (List UInt8)} (hl : l.length ≤ 1048576) : loopO (spec_l22Words_s5 l) ([], 0) = some (l.filter fun x => !(x == [])) := by
  obtain ⟨t, h1, rfl⟩ := loop_rule (step := spec_l22Words_s5 l) (fun i s => s = ((l.take i).filter fun x => !(x == []), (i : Int))) (fun t => t = l.filter fun x => !(x == [])) l.length (by
    rintro i s hi rfl
    simp only [spec_l22Words_s5, spec_l22Words_u4, spec_l22Words_u3, decide_eq_true_eq]
    rcases Nat.lt_or_ge i l.length with h | h
    · left
      obtain ⟨x, hx, _⟩ := get_lt h
      have hb : ((l.take i).filter fun x => !(x == [])).length ≤ i := Nat.le_trans (List.length_filter_le _ _) (by simp; omega)
      rw [if_pos (by omega), getI_nat, hx, Int.toNat_natCast, hx, w64 (by omega)]
      simp only [Option.bind_some, getI_nat, hx]
      by_cases hn : (x.length : Int) > 0
      · have hx0 : (!(x == [])) = true := by
          cases x with
          | nil => simp at hn
          | cons => simp
        rw [if_pos hn, if_pos (okApp_of (by simp only [List.length_append, List.length_cons, List.length_nil]; omega))]
        refine ⟨h, _, rfl, ?_⟩
        rw [List.take_add_one, hx]
        simp only [Option.toList_some, List.filter_append, List.filter_cons, hx0, if_true, List.filter_nil]
        simp
      · have hx0 : (!(x == [])) = false := by
          cases x with
          | nil => simp
          | cons => simp at hn
        rw [if_neg hn]
        refine ⟨h, _, rfl, ?_⟩
        rw [List.take_add_one, hx]
        simp only [Option.toList_some, List.filter_append, List.filter_cons, hx0, Bool.false_eq_true, if_false, List.filter_nil, List.append_nil]
        simp
    · right
      rw [if_neg (by omega)]
      exact ⟨_, rfl, by rw [List.take_of_length_le h]⟩) (s := ([], 0)) (by simp)
  exact h1
theorem wordsOf_same {p : List UInt8} (hp : p.length ≤ 2000) : spec_l22Words p = some ((cutAux 32 [] p).filter fun x => !(x == [])) ∧ impl_wordsOf p = some ((cutAux 32 [] p).filter fun x => !(x == [])) := by
  have hl := cutAux_len 32 p []
  refine ⟨?_, ?_⟩
  · unfold spec_l22Words
    have := l1Cut_eq (c := 32) (p := p) (by omega)
    rw [show ((32 : UInt8).toNat : Int) = 32 from rfl] at this
    rw [this]
    simp only [Option.bind_some]
    rw [words_eq (by omega)]; rfl
  · unfold impl_wordsOf strings_Split slices_DeleteFunc_string
    rw [if_pos (show okSplit p [32] = true from decide_eq_true ⟨by omega, by simp⟩)]
    simp only [Option.bind_some, splitL_cut]
    rw [if_pos (show okDel (cutAux 32 [] p) = true from decide_eq_true ⟨by
      cases h : cutAux 32 [] p with
      | nil => rw [h] at hl; simp at hl
      | cons => rfl, by omega⟩)]
    rfl
def joinC (c : UInt8) : List (List UInt8) → List UInt8
  | [] => []
  | [w] => w
  | w :: v :: ws => w ++ c :: joinC c (v :: ws)
theorem joinC_cons {c : UInt8} {w : List UInt8} {ws : List (List UInt8)} (h : 1 ≤ ws.length) : joinC c (w :: ws) = w ++ c :: joinC c ws := by
  cases ws with
  | nil => simp at h
  | cons v ws => rw [joinC]
theorem join_cut (c : UInt8) : ∀ (s mid : List UInt8), joinC c (cutAux c mid s) = mid ++ s
  | [], mid => by rw [cutAux_nil, joinC]; simp
  | b :: t, mid => by
    by_cases h : b = c
    · subst h
      rw [cutAux_hit, joinC_cons (cutAux_len b t []).1, join_cut b t []]; simp
    · rw [cutAux_miss h, join_cut c t (mid ++ [b])]; simp
theorem cut_word (c : UInt8) (s : List UInt8) : ∀ (w mid : List UInt8), (∀ x ∈ w, x ≠ c) → cutAux c mid (w ++ c :: s) = (mid ++ w) :: cutAux c [] s
  | [], mid, _ => by rw [List.nil_append, cutAux_hit, List.append_nil]
  | b :: w, mid, h => by
    rw [List.cons_append, cutAux_miss (h b (by simp)), cut_word c s w (mid ++ [b]) (fun x hx => h x (by simp [hx]))]; simp
theorem cut_last (c : UInt8) : ∀ (w mid : List UInt8), (∀ x ∈ w, x ≠ c) → cutAux c mid w = [mid ++ w]
  | [], mid, _ => by rw [cutAux_nil, List.append_nil]
  | b :: w, mid, h => by
    rw [cutAux_miss (h b (by simp)), cut_last c w (mid ++ [b]) (fun x hx => h x (by simp [hx]))]; simp
theorem dec_no58 {u : Nat} : ∀ x ∈ Lib.decDigits u, x ≠ (58 : UInt8) := fun x hx e => by
  have := isD_iff.1 (List.all_eq_true.1 (dec_dig u) x hx)
  rw [e] at this
  have : (58 : UInt8).toNat = 58 := rfl
  omega
def wLost : List UInt8 := [108, 111, 115, 116]
def wComes : List UInt8 := [99, 111, 109, 101, 115]
def wTwice : List UInt8 := [116, 119, 105, 99, 101]
def wTurned : List UInt8 := [116, 117, 114, 110, 101, 100]
def txt (f : SFate) : List UInt8 :=
  if f.Kind = 1 then wComes ++ 58 :: Lib.decDigits f.Delay.toNat
  else if f.Kind = 2 then wTwice ++ 58 :: Lib.decDigits f.Delay.toNat
  else if f.Kind = 3 then wTurned ++ 58 :: (Lib.decDigits f.Delay.toNat ++ 58 :: (Lib.decDigits f.At.toNat ++ 58 :: Lib.decDigits f.Bits.toNat))
  else wLost
theorem decimal_eq {x : Int} (hx : 0 ≤ x ∧ x ≤ 65535) : impl_decimal x = some (Lib.decDigits x.toNat) ∧ (Lib.decDigits x.toNat).length ≤ 65536 := by
  refine ⟨?_, by have := dec_len x.toNat; omega⟩
  unfold impl_decimal strconv_FormatInt
  rw [if_pos ⟨decide_eq_true (by omega), rfl⟩]
  simp only [Option.bind_some]
  unfold Lib.itoa
  rw [if_neg (by omega)]
theorem fateText_eq {f : SFate} (h : spec_FateFault f = 0) : impl_fateText f = some (txt f) := by
  obtain ⟨k, d, a, b⟩ := f
  obtain ⟨h1, h2, h3⟩ := fate_ok h
  simp only at h1 h2 h3
  unfold impl_fateText impl_fateText_u1 impl_fateText_u4 impl_fateText_u2 impl_fateText_u3 txt
  obtain ⟨d2, d3⟩ := decimal_eq (x := d) (by omega)
  have hk : k = 0 ∨ k = 1 ∨ k = 2 ∨ k = 3 := by omega
  rcases hk with rfl | rfl | rfl | rfl
  · rfl
  · simp only [d2, Option.bind_some, beq_self_eq_true, if_true, Int.reduceBEq, Bool.false_eq_true, if_false]
    rw [if_pos (by simp; omega), if_pos (by simp; omega)]
    rfl
  · simp only [d2, Option.bind_some, beq_self_eq_true, if_true, Int.reduceBEq, Bool.false_eq_true, if_false]
    rw [if_pos (by simp; omega), if_pos (by simp; omega)]
    rfl
  · obtain ⟨g1, g2⟩ := h3 rfl
    obtain ⟨a2, a3⟩ := decimal_eq (x := a) (by omega)
    obtain ⟨b2, b3⟩ := decimal_eq (x := b) (by omega)
    simp only [d2, a2, b2, Option.bind_some, beq_self_eq_true, if_true, Int.reduceBEq, Bool.false_eq_true, if_false]
    repeat rw [if_pos (by simp; omega)]
    simp [wTurned]
def partsOf (f : SFate) : List (List UInt8) :=
  if f.Kind = 1 then [wComes, Lib.decDigits f.Delay.toNat]
  else if f.Kind = 2 then [wTwice, Lib.decDigits f.Delay.toNat]
  else if f.Kind = 3 then [wTurned, Lib.decDigits f.Delay.toNat, Lib.decDigits f.At.toNat, Lib.decDigits f.Bits.toNat]
  else [wLost]
theorem cut_txt {f : SFate} : cutAux 58 [] (txt f) = partsOf f := by
  have n1 : ∀ x ∈ wComes, x ≠ (58 : UInt8) := by decide
  have n2 : ∀ x ∈ wTwice, x ≠ (58 : UInt8) := by decide
  have n3 : ∀ x ∈ wTurned, x ≠ (58 : UInt8) := by decide
  have n0 : ∀ x ∈ wLost, x ≠ (58 : UInt8) := by decide
  unfold txt partsOf
  split
  · rw [cut_word _ _ _ _ n1, cut_last _ _ _ dec_no58]; rfl
  · split
    · rw [cut_word _ _ _ _ n2, cut_last _ _ _ dec_no58]; rfl
    · split
      · rw [cut_word _ _ _ _ n3, cut_word _ _ _ _ dec_no58, cut_word _ _ _ _ dec_no58, cut_last _ _ _ dec_no58]; rfl
      · rw [cut_last _ _ _ n0]; rfl
theorem dec_lenK : ∀ (k u : Nat), u < 10 ^ (k + 1) → (Lib.decDigits u).length ≤ k + 1
  | 0, u, h => by rw [Lib.decDigits, dif_pos (by simpa using h)]; simp
  | k + 1, u, h => by
    rw [Lib.decDigits]
    split
    · simp
    · have := dec_lenK k (u / 10) (by rw [Nat.pow_succ] at h; omega)
      simp only [List.length_append, List.length_cons, List.length_nil]; omega
theorem body_len {c : UInt8} {r : List UInt8} : (bodyOf c r).length ≤ (c :: r).length := by
  unfold bodyOf
  split
  · simp
  · exact Nat.le_refl _
theorem dec_facts {u : Nat} (hu : u ≤ 65535) : ∃ c r, Lib.decDigits u = c :: r ∧ (c :: r).length ≤ 7 ∧ Lib.itoa (u : Int) = c :: r := by
  have h7 := dec_lenK 6 u (Nat.lt_of_le_of_lt hu (by decide))
  cases h : Lib.decDigits u with
  | nil =>
    rw [Lib.decDigits] at h
    split at h <;> simp at h
  | cons c r => exact ⟨c, r, rfl, by rw [← h]; exact h7, by rw [Lib.itoa_nonneg, h]⟩
theorem spec_dec {u : Nat} (hu : u ≤ 65535) : spec_ReadNumber 64 (Lib.decDigits u) = some ⟨0, (u : Int)⟩ := by
  obtain ⟨c, r, e, h7, hi⟩ := dec_facts hu
  obtain ⟨e1, e2, e3⟩ := spelled hi
  rw [e, spec_form (by omega), if_pos ⟨e1, Nat.le_trans body_len h7, e2, by rw [e3]; exact hi⟩, e3]
theorem impl_dec {u : Nat} (hu : u ≤ 65535) : impl_number (Lib.decDigits u) = some ((u : Int), true) := by
  obtain ⟨c, r, e, h7, hi⟩ := dec_facts hu
  obtain ⟨e1, e2, e3⟩ := spelled hi
  have hb := Nat.le_trans (body_len (c := c) (r := r)) h7
  have hn := numbers e1 hb e2 e3.symm
  rw [e, num_form (by omega), hn]
  simp only [true_and]
  rw [decide_eq_true ⟨hi, hb⟩]
theorem spec_num {x : List UInt8} (hx : x.length ≤ 1048576) : ∃ r, spec_ReadNumber 64 x = some r ∧ (r.Code = 0 → x = Lib.itoa r.Value) ∧ (r.Code ≠ 0 → r = ⟨5, 0⟩) := by
  match x with
  | [] => exact ⟨⟨5, 0⟩, rfl, fun h => by simp at h, fun _ => rfl⟩
  | c :: r =>
    rw [spec_form hx]
    refine ⟨_, rfl, fun h => ?_, fun h => ?_⟩
    · split at h
      · rename_i q; rw [if_pos q]; exact q.2.2.2.symm
      · simp at h
    · split at h
      · simp at h
      · rename_i q; rw [if_neg q]
theorem impl_num {x : List UInt8} (hx : x.length ≤ 1048576) : ∃ r, impl_number x = some r := by
  match x with
  | [] => exact ⟨_, rfl⟩
  | c :: r => exact ⟨_, num_form hx⟩
inductive NumsOf : List (List UInt8) → List Int → Prop
  | nil : NumsOf [] []
  | cons {x : List UInt8} {n : Int} {xs : List (List UInt8)} {ns : List Int} (h : spec_ReadNumber 64 x = some ⟨0, n⟩) (t : NumsOf xs ns) : NumsOf (x :: xs) (n :: ns)
theorem nums_loop {parts : List (List UInt8)} (hp : parts.length ≤ 1048576) (hx : ∀ x ∈ parts, x.length ≤ 1048576) : ∀ (rest pre : List (List UInt8)) (vals : List Int), parts = pre ++ rest → vals.length ≤ pre.length →
    (∃ ns, loopO (spec_l22Read_s1 64 parts) (vals, (pre.length : Int)) = some (.inl (vals ++ ns)) ∧ NumsOf rest ns) ∨
    (loopO (spec_l22Read_s1 64 parts) (vals, (pre.length : Int)) = some (.inr ()) ∧ ∃ x ∈ rest, ∀ n, spec_ReadNumber 64 x ≠ some ⟨0, n⟩)
  | [], pre, vals, e, hv => by
    have hl : parts.length = pre.length := by rw [e]; simp
    refine .inl ⟨[], ?_, .nil⟩
    rw [loopO_eq]
    simp only [spec_l22Read_s1, decide_eq_true_eq]
    rw [if_neg (by omega)]; simp
  | x :: rest, pre, vals, e, hv => by
    have hl : parts.length = pre.length + (rest.length + 1) := by rw [e]; simp
    have hg : parts[pre.length]? = some x := by rw [e]; simp
    obtain ⟨r, r1, r2, r3⟩ := spec_num (x := x) (hx x (by rw [e]; simp))
    have step : spec_l22Read_s1 64 parts (vals, (pre.length : Int)) = if r.Code = 0 then some (.inl (vals ++ [r.Value], (pre.length : Int) + 1)) else some (.inr (.inr ())) := by
      simp only [spec_l22Read_s1, decide_eq_true_eq]
      rw [if_pos (by omega), getI_nat, hg, Int.toNat_natCast, hg]
      simp only [Option.bind_some, r1, bne_iff_ne, ne_eq]
      by_cases hc : r.Code = 0
      · rw [if_neg (by simp [hc]), if_pos (okApp_8 (by simp; omega)), if_pos hc, w64 (by omega)]
      · rw [if_pos hc, if_neg hc]
    rw [loopO_eq, step]
    by_cases hc : r.Code = 0
    · rw [if_pos hc]
      have hr : spec_ReadNumber 64 x = some ⟨0, r.Value⟩ := by rw [r1]; obtain ⟨a, b⟩ := r; simp only at hc; rw [hc]
      have e2 : (pre.length : Int) + 1 = ((pre ++ [x]).length : Int) := by simp
      rw [e2]
      rcases nums_loop hp hx rest (pre ++ [x]) (vals ++ [r.Value]) (by rw [e]; simp) (by simp; omega) with ⟨ns, n1, n2⟩ | ⟨n1, y, n2, n3⟩
      · exact .inl ⟨r.Value :: ns, by simp only []; rw [n1]; simp, .cons hr n2⟩
      · exact .inr ⟨by simp only []; rw [n1], y, by simp [n2], n3⟩
    · rw [if_neg hc]
      exact .inr ⟨rfl, x, by simp, fun n q => by rw [r1] at q; obtain rfl := Option.some.inj q; exact hc rfl⟩
theorem u7_form {w : List UInt8} {rest : List (List UInt8)} {ns : List Int} : spec_l22Read_u7 64 (w :: rest) ns = some (if w = wComes ∧ ns.length = 1 then .inl (1, ns.getD 0 0, 0, 0) else if w = wTwice ∧ ns.length = 1 then .inl (2, ns.getD 0 0, 0, 0) else if w = wTurned ∧ ns.length = 3 then .inl (3, ns.getD 0 0, ns.getD 1 0, ns.getD 2 0) else if w = wLost ∧ ns.length = 0 then .inl (0, 0, 0, 0) else .inr ()) := by
  have g0 : getI (w :: rest) 0 = some w := rfl
  have g1 : (w :: rest)[(0 : Int).toNat]? = some w := rfl
  have get : ∀ (i : Nat) (l : List Int), i < l.length → getI l (i : Int) = some (l.getD i 0) ∧ l[i]? = some (l.getD i 0) := fun i l h => by
    rw [getI_nat]
    simp [h]
  unfold spec_l22Read_u7 spec_l22Read_u2 spec_l22Read_u6 spec_l22Read_u3 spec_l22Read_u4 spec_l22Read_u5
  simp only [g0, g1, Option.bind_some]
  by_cases h1 : w = wComes
  · subst h1
    by_cases hl : ns.length = 1
    · obtain ⟨e1, e2⟩ := get 0 ns (by omega)
      have e1' : getI ns 0 = some (ns.getD 0 0) := e1
      have e2' : ns[(0 : Int).toNat]? = some (ns.getD 0 0) := e2
      simp [wComes, hl, e1', e2']
    · have : ¬ ((ns.length : Int) = 1) := by omega
      simp [wComes, wTwice, wTurned, wLost, hl, this]
  · by_cases h2 : w = wTwice
    · subst h2
      by_cases hl : ns.length = 1
      · obtain ⟨e1, e2⟩ := get 0 ns (by omega)
        have e1' : getI ns 0 = some (ns.getD 0 0) := e1
        have e2' : ns[(0 : Int).toNat]? = some (ns.getD 0 0) := e2
        simp [wComes, wTwice, hl, e1', e2']
      · have : ¬ ((ns.length : Int) = 1) := by omega
        simp [wComes, wTwice, wTurned, wLost, hl, this]
    · by_cases h3 : w = wTurned
      · subst h3
        by_cases hl : ns.length = 3
        · obtain ⟨e1, e2⟩ := get 0 ns (by omega)
          obtain ⟨f1, f2⟩ := get 1 ns (by omega)
          obtain ⟨k1, k2⟩ := get 2 ns (by omega)
          have e1' : getI ns 0 = some (ns.getD 0 0) := e1
          have e2' : ns[(0 : Int).toNat]? = some (ns.getD 0 0) := e2
          have f1' : getI ns 1 = some (ns.getD 1 0) := f1
          have f2' : ns[(1 : Int).toNat]? = some (ns.getD 1 0) := f2
          have k1' : getI ns 2 = some (ns.getD 2 0) := k1
          have k2' : ns[(2 : Int).toNat]? = some (ns.getD 2 0) := k2
          simp [wComes, wTwice, wTurned, hl, e1', e2', f1', f2', k1', k2']
        · have : ¬ ((ns.length : Int) = 3) := by omega
          simp [wComes, wTwice, wTurned, wLost, hl, this]
      · have b1 : (w == [99, 111, 109, 101, 115]) = false := by simpa [wComes] using h1
        have b2 : (w == [116, 119, 105, 99, 101]) = false := by simpa [wTwice] using h2
        have b3 : (w == [116, 117, 114, 110, 101, 100]) = false := by simpa [wTurned] using h3
        simp only [b1, b2, b3, Bool.false_eq_true, if_false, Option.bind_some, h1, h2, h3, false_and]
        by_cases h4 : w = wLost
        · subst h4
          by_cases hl : ns.length = 0
          · simp [wLost, hl]
          · have h0 : 0 < ns.length := by omega
            simp [wLost, hl, h0]
        · have b4 : (w == [108, 111, 115, 116]) = false := by simpa [wLost] using h4
          simp [b4, h4]
theorem fate_ok2 {f : SFate} (h : spec_FateFault f = 0) : (f.Kind = 0 → f.Delay = 0) ∧ (f.Kind ≠ 3 → f.At = 0 ∧ f.Bits = 0) := by
  obtain ⟨h1, h2, h3⟩ := fate_ok h
  obtain ⟨k, d, a, b⟩ := f
  unfold spec_FateFault spec_FateFault_u1 spec_FateFault_u2 at h
  simp only [spec_l1In_eq] at h
  simp only at h1 h2 h3 ⊢
  by_cases k3 : k = 3
  · subst k3; simp
  · by_cases k0 : k = 0
    · subst k0
      by_cases h6 : a = 0 <;> by_cases h7 : b = 0 <;> by_cases h8 : d = 0 <;> simp [h2, h6, h7, h8] at h ⊢
    · by_cases h6 : a = 0 <;> by_cases h7 : b = 0 <;> simp [k0, k3, h1, h2, h6, h7] at h ⊢
theorem nums_dec : ∀ {us : List Nat} {ns : List Int}, (∀ u ∈ us, u ≤ 65535) → NumsOf (us.map Lib.decDigits) ns → ns = us.map (fun u : Nat => (u : Int))
  | [], ns, _, h => by cases h; rfl
  | u :: us, ns, hu, h => by
    cases h with
    | cons h t =>
      rw [spec_dec (hu u (by simp))] at h
      have e := Option.some.inj h
      simp only [SIntResult.mk.injEq, true_and] at e
      rw [← e, nums_dec (fun v hv => hu v (by simp [hv])) t]; rfl
theorem numsOf_len : ∀ {xs : List (List UInt8)} {ns : List Int}, NumsOf xs ns → ns.length = xs.length
  | _, _, .nil => rfl
  | _, _, .cons _ t => by simp [numsOf_len t]
theorem numsOf_at {xs : List (List UInt8)} {ns : List Int} (h : NumsOf xs ns) (hx : ∀ x ∈ xs, x.length ≤ 1048576) : ∀ (i : Nat) (x : List UInt8), xs[i]? = some x → x = Lib.itoa (ns.getD i 0) := by
  induction h with
  | nil => intro i x q; simp at q
  | @cons x0 n0 xs0 ns0 h t ih =>
    intro i x q
    rcases i with _ | i
    · simp only [List.getElem?_cons_zero, Option.some.injEq] at q
      subst q
      obtain ⟨r, r1, r2, _⟩ := spec_num (x := x0) (hx x0 (by simp))
      rw [h] at r1
      obtain rfl := Option.some.inj r1
      simpa using r2 rfl
    · simp only [List.getElem?_cons_succ] at q
      simpa using ih (fun y hy => hx y (by simp [hy])) i x q
theorem cut_short {c : UInt8} : ∀ (s mid : List UInt8), ∀ x ∈ cutAux c mid s, x.length ≤ mid.length + s.length
  | [], mid, x, h => by rw [cutAux_nil, List.mem_singleton] at h; subst h; simp
  | b :: t, mid, x, h => by
    by_cases hb : b = c
    · subst hb
      rw [cutAux_hit] at h
      rcases List.mem_cons.1 h with rfl | h
      · simp
      · have := cut_short t [] x h; simp at this ⊢; omega
    · rw [cutAux_miss hb] at h
      have := cut_short t (mid ++ [b]) x h; simp at this ⊢; omega
theorem itoa_dec {n : Int} (h : 0 ≤ n) : Lib.itoa n = Lib.decDigits n.toNat := by unfold Lib.itoa; rw [if_neg (by omega)]
theorem spec_fate {p : List UInt8} (hp : p.length ≤ 1048576) : ∃ r, spec_ReadFate 64 p = some r ∧ (r = ⟨5, ⟨0, 0, 0, 0⟩⟩ ∨ ∃ f, r = ⟨0, f⟩ ∧ spec_FateFault f = 0 ∧ p = txt f) := by
  unfold spec_ReadFate spec_l22Read
  by_cases h30 : (p.length : Int) > 30
  · rw [if_pos (decide_eq_true h30)]
    exact ⟨_, rfl, .inl rfl⟩
  rw [if_neg (by simpa using h30)]
  have hc := l1Cut_eq (c := 58) (p := p) hp
  rw [show ((58 : UInt8).toNat : Int) = 58 from rfl] at hc
  rw [hc]
  simp only [Option.bind_some]
  have hj := join_cut 58 p []
  have hl := cutAux_len 58 p []
  have hs := cut_short (c := 58) p []
  generalize cutAux 58 [] p = parts at hj hl hs
  rw [List.nil_append] at hj
  cases parts with
  | nil => simp at hl
  | cons w rest =>
    have hx : ∀ x ∈ w :: rest, x.length ≤ 1048576 := fun x hx => by have := hs x hx; simp at this; omega
    rcases nums_loop (parts := w :: rest) (by have := hl.2; simp at this ⊢; omega) hx rest [w] [] rfl (by simp) with ⟨ns, n1, n2⟩ | ⟨n1, _⟩
    · have n1' : loopO (spec_l22Read_s1 64 (w :: rest)) ([], 1) = some (.inl ns) := by simpa using n1
      have hat := numsOf_at n2 (fun x h => hx x (by simp [h]))
      have hlen := numsOf_len n2
      rw [n1']
      simp only [Option.bind_some, Sum.elim_inl, u7_form]
      have one : ∀ (v : List UInt8) (k : Int), w = v → ns.length = 1 → 0 ≤ ns.getD 0 0 → p = v ++ 58 :: Lib.decDigits (ns.getD 0 0).toNat := fun v k hw h1 h0 => by
        obtain ⟨x, rfl⟩ : ∃ x, rest = [x] := by
          match rest, hlen with
          | [x], _ => exact ⟨x, rfl⟩
          | [], q => simp only [List.length_nil, List.length_cons] at q; omega
          | _ :: _ :: _, q => simp only [List.length_nil, List.length_cons] at q; omega
        have := hat 0 x rfl
        rw [itoa_dec h0] at this
        rw [← hj, hw, ← this]; rfl
      by_cases c1 : w = wComes ∧ ns.length = 1
      · rw [if_pos c1]
        simp only [Option.bind_some, Sum.elim_inl]
        by_cases hf : spec_FateFault ⟨1, ns.getD 0 0, 0, 0⟩ = 0
        · rw [hf]
          refine ⟨_, rfl, .inr ⟨_, rfl, hf, ?_⟩⟩
          obtain ⟨_, q, _⟩ := fate_ok hf
          exact one wComes 1 c1.1 c1.2 q.1
        · have : (spec_FateFault ⟨1, ns.getD 0 0, 0, 0⟩ == 0) = false := by simpa using hf
          rw [this]
          exact ⟨_, rfl, .inl rfl⟩
      rw [if_neg c1]
      by_cases c2 : w = wTwice ∧ ns.length = 1
      · rw [if_pos c2]
        simp only [Option.bind_some, Sum.elim_inl]
        by_cases hf : spec_FateFault ⟨2, ns.getD 0 0, 0, 0⟩ = 0
        · rw [hf]
          refine ⟨_, rfl, .inr ⟨_, rfl, hf, ?_⟩⟩
          obtain ⟨_, q, _⟩ := fate_ok hf
          exact one wTwice 2 c2.1 c2.2 q.1
        · have : (spec_FateFault ⟨2, ns.getD 0 0, 0, 0⟩ == 0) = false := by simpa using hf
          rw [this]
          exact ⟨_, rfl, .inl rfl⟩
      rw [if_neg c2]
      by_cases c3 : w = wTurned ∧ ns.length = 3
      · rw [if_pos c3]
        simp only [Option.bind_some, Sum.elim_inl]
        by_cases hf : spec_FateFault ⟨3, ns.getD 0 0, ns.getD 1 0, ns.getD 2 0⟩ = 0
        · rw [hf]
          refine ⟨_, rfl, .inr ⟨_, rfl, hf, ?_⟩⟩
          obtain ⟨_, q, q3⟩ := fate_ok hf
          obtain ⟨q4, q5⟩ := q3 rfl
          simp only at q q4 q5
          obtain ⟨x, y, z, rfl⟩ : ∃ x y z, rest = [x, y, z] := by
            match rest, hlen with
            | [x, y, z], _ => exact ⟨x, y, z, rfl⟩
            | [], q => simp only [List.length_nil, List.length_cons] at q; omega
            | [_], q => simp only [List.length_nil, List.length_cons] at q; omega
            | [_, _], q => simp only [List.length_nil, List.length_cons] at q; omega
            | _ :: _ :: _ :: _ :: _, q => simp only [List.length_nil, List.length_cons] at q; omega
          have e0 := hat 0 x rfl
          have e1 := hat 1 y rfl
          have e2 := hat 2 z rfl
          rw [itoa_dec q.1] at e0
          rw [itoa_dec q4.1] at e1
          rw [itoa_dec (by omega)] at e2
          rw [← hj, c3.1]
          simp only [joinC, txt, e0, e1, e2]
          rfl
        · have : (spec_FateFault ⟨3, ns.getD 0 0, ns.getD 1 0, ns.getD 2 0⟩ == 0) = false := by simpa using hf
          rw [this]
          exact ⟨_, rfl, .inl rfl⟩
      rw [if_neg c3]
      by_cases c4 : w = wLost ∧ ns.length = 0
      · rw [if_pos c4]
        simp only [Option.bind_some, Sum.elim_inl]
        refine ⟨_, rfl, .inr ⟨⟨0, 0, 0, 0⟩, rfl, rfl, ?_⟩⟩
        obtain rfl : rest = [] := List.eq_nil_of_length_eq_zero (by omega)
        rw [← hj, c4.1]; rfl
      · rw [if_neg c4]
        exact ⟨_, rfl, .inl rfl⟩
    · have n1' : loopO (spec_l22Read_s1 64 (w :: rest)) ([], 1) = some (.inr ()) := by simpa using n1
      rw [n1']
      exact ⟨_, rfl, .inl rfl⟩
def kOf (w : List UInt8) : Int := if w = wLost then 0 else if w = wComes then 1 else if w = wTwice then 2 else if w = wTurned then 3 else -1
theorem index_eq {x : List UInt8} : slices_Index_string [[108, 111, 115, 116], [99, 111, 109, 101, 115], [116, 119, 105, 99, 101], [116, 117, 114, 110, 101, 100]] x = some (kOf x) := by
  unfold kOf
  have g : ∀ {l : List (List UInt8)} {i : Nat}, getI l (i : Int) = l[i]? := fun {l i} => getI_nat
  have s : ∀ (i : Nat), slices_Index_string_s1 [wLost, wComes, wTwice, wTurned] x 4 (i : Int) = if i < 4 then ([wLost, wComes, wTwice, wTurned][i]?).bind fun y => if x = y then some (.inr (.inr (i : Int))) else some (.inl ((i + 1 : Nat) : Int)) else some (.inr (.inl ())) := fun i => by
    simp only [slices_Index_string_s1, decide_eq_true_eq, getI_nat, beq_iff_eq]
    by_cases h : i < 4
    · rw [if_pos (by omega), if_pos h, w64 (by omega)]; rfl
    · rw [if_neg (by omega), if_neg h]
  have s0 := s 0
  have s1 := s 1
  have s2 := s 2
  have s3 := s 3
  have s4 := s 4
  simp only [Nat.reduceLT, if_true, if_false, List.getElem?_cons_zero, List.getElem?_cons_succ, Option.bind_some] at s0 s1 s2 s3 s4
  show (loopO (slices_Index_string_s1 [wLost, wComes, wTwice, wTurned] x 4) ((0 : Nat) : Int)).bind _ = _
  rw [loopO_eq, s0]
  by_cases h0 : x = wLost
  · rw [if_pos h0, if_pos h0]; rfl
  rw [if_neg h0, if_neg h0]
  simp only []
  rw [loopO_eq, s1]
  by_cases h1 : x = wComes
  · rw [if_pos h1, if_pos h1]; rfl
  rw [if_neg h1, if_neg h1]
  simp only []
  rw [loopO_eq, s2]
  by_cases h2 : x = wTwice
  · rw [if_pos h2, if_pos h2]; rfl
  rw [if_neg h2, if_neg h2]
  simp only []
  rw [loopO_eq, s3]
  by_cases h3 : x = wTurned
  · rw [if_pos h3, if_pos h3]; rfl
  rw [if_neg h3, if_neg h3]
  simp only []
  rw [loopO_eq, s4]
  rfl
def valX (x : List UInt8) : Int := ((impl_number x).getD (0, false)).1
def updI (i : Nat) (v : Int) (s : Int × Int × Int) : Int × Int × Int := if i = 0 then (v, s.2.1, s.2.2) else if i = 1 then (s.1, v, s.2.2) else if i = 2 then (s.1, s.2.1, v) else s
def goF : List (List UInt8) → Nat → Int × Int × Int → Int × Int × Int
  | [], _, s => s
  | x :: xs, i, s => goF xs (i + 1) (updI i (valX x) s)
theorem step6 {k : Int} {w : List UInt8} {rest : List (List UInt8)} {p : List UInt8} {i : Nat} {x : List UInt8} {s : Int × Int × Int} (hl : rest.length ≤ 1048576) (hx : rest[i]? = some x) (hn : ∃ r, impl_number x = some r) : impl_ReadFate_s6 k (w :: rest) p 1 rest.length (rest.length : Int) (s.1, s.2.1, s.2.2, (i : Int)) = some (.inl ((updI i (valX x) s).1, (updI i (valX x) s).2.1, (updI i (valX x) s).2.2, ((i + 1 : Nat) : Int))) := by
  obtain ⟨r, hn⟩ := hn
  have hi : i < rest.length := (List.getElem?_eq_some_iff.1 hx).1
  have hg : getI (((w :: rest).drop 1).take rest.length) (i : Int) = some x := by rw [getI_nat]; simpa using hx
  have hg2 : (w :: rest)[1 + (i : Int).toNat]? = some x := by rw [Int.toNat_natCast, Nat.add_comm]; simpa using hx
  have hv : valX x = r.1 := by simp [valX, hn]
  simp only [impl_ReadFate_s6, decide_eq_true_eq]
  rw [if_pos (by omega), w64 (by omega), hv]
  unfold impl_ReadFate_u5 impl_ReadFate_u4
  rw [hg, hg2]
  simp only [Option.bind_some, hn, decide_eq_true_eq, beq_iff_eq]
  obtain ⟨a, b, c⟩ := s
  by_cases h0 : i = 0
  · subst h0; simp [updI]
  · by_cases h1 : i = 1
    · subst h1; simp [updI]
    · by_cases h2 : i = 2
      · subst h2; simp [updI]
      · rw [if_neg (by omega)]; simp [updI, h0, h1, h2]
theorem run6 {k : Int} {w : List UInt8} {rest : List (List UInt8)} {p : List UInt8} (hl : rest.length ≤ 1048576) (hx : ∀ x ∈ rest, ∃ r, impl_number x = some r) : ∀ (tl : List (List UInt8)) (i : Nat) (s : Int × Int × Int), rest.drop i = tl → i ≤ rest.length → loopO (impl_ReadFate_s6 k (w :: rest) p 1 rest.length (rest.length : Int)) (s.1, s.2.1, s.2.2, (i : Int)) = some (goF tl i s)
  | [], i, s, e, hi => by
    have : rest.length ≤ i := List.drop_eq_nil_iff.1 e
    rw [loopO_eq]
    simp only [impl_ReadFate_s6, decide_eq_true_eq]
    rw [if_neg (by omega)]; rfl
  | x :: tl, i, s, e, hi => by
    have hg : rest[i]? = some x := by
      have := congrArg (fun l => l[0]?) e
      simpa using this
    have hi2 : i < rest.length := (List.getElem?_eq_some_iff.1 hg).1
    rw [loopO_eq, step6 hl hg (hx x (List.mem_of_getElem? hg))]
    simp only []
    rw [run6 hl hx tl (i + 1) (updI i (valX x) s) (by rw [← List.drop_drop, e]; rfl) hi2]
    rfl
theorem impl_form {p w : List UInt8} {rest : List (List UInt8)} (hp : p.length ≤ 1048576) (e : cutAux 58 [] p = w :: rest) : impl_ReadFate p = (let k : Int := kOf w; let t := goF rest 0 (0, 0, 0); (impl_ReadFate_u8 k t.1 t.2.1 t.2.2 p).bind fun y => if y = true then some ⟨5, ⟨0, 0, 0, 0⟩⟩ else some ⟨0, ⟨k, t.1, t.2.1, t.2.2⟩⟩) := by
  have hl := (cutAux_len 58 p []).2
  have hs := cut_short (c := 58) p []
  rw [e] at hl hs
  have hl2 : rest.length ≤ 1048576 := by simp at hl; omega
  have hx : ∀ x ∈ rest, ∃ r, impl_number x = some r := fun x h => impl_num (by have := hs x (by simp [h]); simp at this; omega)
  have hsp : strings_Split p [58] = some (w :: rest) := by
    unfold strings_Split
    rw [if_pos (show okSplit p [58] = true from decide_eq_true ⟨by omega, by simp⟩), splitL_cut, e]
  have hc : cutI (w :: rest).length 1 ((w :: rest).length : Int) = some (1, rest.length + 1) := by
    unfold cutI
    rw [if_pos (by simp only [List.length_cons]; omega), if_pos (by simp only [List.length_cons]; omega)]; simp
  have hr := run6 (k := kOf w) (w := w) (p := p) hl2 hx rest 0 (0, 0, 0) rfl (by omega)
  unfold impl_ReadFate impl_ReadFate_u1
  rw [hsp]
  simp only [Option.bind_some]
  rw [show getI (w :: rest) 0 = some w from rfl, show (w :: rest)[(0 : Int).toNat]? = some w from rfl]
  simp only [Option.bind_some, index_eq]
  rw [hc]
  simp only [Option.bind_some, Nat.add_sub_cancel]
  have hr' := hr
  simp only [Int.natCast_zero, Int.cast_ofNat_Int] at hr'
  rw [hr']
  rfl
theorem u8_form {f : SFate} {p : List UInt8} : impl_ReadFate_u8 f.Kind f.Delay f.At f.Bits p = some (decide (¬ (spec_FateFault f = 0 ∧ p = txt f))) := by
  obtain ⟨k, d, a, b⟩ := f
  unfold impl_ReadFate_u8
  rw [fate_same]
  simp only [Option.bind_some, bne_iff_ne, ne_eq]
  by_cases h : spec_FateFault ⟨k, d, a, b⟩ = 0
  · rw [if_neg (by simp [h]), fateText_eq h]
    simp only [Option.bind_some, h, true_and]
    by_cases q : p = txt ⟨k, d, a, b⟩
    · rw [← q]; simp
    · have : (txt ⟨k, d, a, b⟩ == p) = false := by simpa using fun e => q e.symm
      simp [this, q]
  · simp [h]
theorem impl_fate {p : List UInt8} (hp : p.length ≤ 1048576) : ∃ r, impl_ReadFate p = some r ∧ (r = ⟨5, ⟨0, 0, 0, 0⟩⟩ ∨ ∃ f, r = ⟨0, f⟩ ∧ spec_FateFault f = 0 ∧ p = txt f) := by
  have hl := (cutAux_len 58 p []).1
  cases e : cutAux 58 [] p with
  | nil => rw [e] at hl; simp at hl
  | cons w rest =>
    rw [impl_form hp e]
    simp only []
    generalize kOf w = k
    generalize goF rest 0 (0, 0, 0) = t
    have u := u8_form (f := ⟨k, t.1, t.2.1, t.2.2⟩) (p := p)
    simp only at u
    rw [u]
    simp only [Option.bind_some, decide_eq_true_eq]
    by_cases q : spec_FateFault ⟨k, t.1, t.2.1, t.2.2⟩ = 0 ∧ p = txt ⟨k, t.1, t.2.1, t.2.2⟩
    · rw [if_neg (fun x => x q)]
      exact ⟨_, rfl, .inr ⟨_, rfl, q.1, q.2⟩⟩
    · rw [if_pos q]
      exact ⟨_, rfl, .inl rfl⟩
theorem valX_dec {x : Int} (h : 0 ≤ x ∧ x ≤ 65535) : valX (Lib.decDigits x.toNat) = x := by
  unfold valX
  rw [impl_dec (by omega)]
  simp only [Option.getD_some]
  omega
theorem impl_at {f : SFate} (h : spec_FateFault f = 0) (hp : (txt f).length ≤ 1048576) : impl_ReadFate (txt f) = some ⟨0, f⟩ := by
  obtain ⟨h1, h2, h3⟩ := fate_ok h
  obtain ⟨z0, z3⟩ := fate_ok2 h
  have u := u8_form (f := f) (p := txt f)
  rw [decide_eq_false (fun q => q ⟨h, rfl⟩)] at u
  have e := cut_txt (f := f)
  obtain ⟨k, d, a, b⟩ := f
  simp only at h1 h2 h3 z0 z3 u
  unfold partsOf at e
  simp only at e
  have vd := valX_dec (x := d) (by omega)
  have hk : k = 0 ∨ k = 1 ∨ k = 2 ∨ k = 3 := by omega
  rcases hk with rfl | rfl | rfl | rfl
  · obtain rfl := z0 rfl
    obtain ⟨rfl, rfl⟩ := z3 (by decide)
    rw [impl_form hp e]
    have k1 : kOf wLost = 0 := rfl
    simp only [goF, k1, u, Option.bind_some, Bool.false_eq_true, if_false]
  · obtain ⟨rfl, rfl⟩ := z3 (by decide)
    rw [impl_form hp (e.trans (if_pos rfl))]
    have k1 : kOf wComes = 1 := rfl
    simp only [goF, updI, vd, k1, if_true, u, Option.bind_some, Bool.false_eq_true, if_false]
  · obtain ⟨rfl, rfl⟩ := z3 (by decide)
    rw [impl_form hp (e.trans rfl)]
    have k1 : kOf wTwice = 2 := rfl
    simp only [goF, updI, vd, k1, if_true, u, Option.bind_some, Bool.false_eq_true, if_false]
  · obtain ⟨g1, g2⟩ := h3 rfl
    have va := valX_dec (x := a) (by omega)
    have vb := valX_dec (x := b) (by omega)
    rw [impl_form hp (e.trans rfl)]
    have k1 : kOf wTurned = 3 := rfl
    simp only [goF, updI, vd, va, vb, k1, if_true, u, Option.bind_some, Bool.false_eq_true, if_false, Nat.reduceAdd, Nat.reduceEqDiff, Nat.one_ne_zero, Nat.zero_add]
theorem nums_run {parts : List (List UInt8)} {w : List UInt8} {us : List Nat} (e : parts = w :: us.map Lib.decDigits) (hp : parts.length ≤ 1048576) (hx : ∀ x ∈ parts, x.length ≤ 1048576) (hu : ∀ u ∈ us, u ≤ 65535) : loopO (spec_l22Read_s1 64 parts) ([], 1) = some (.inl (us.map (fun u : Nat => (u : Int)))) := by
  rcases nums_loop hp hx (us.map Lib.decDigits) [w] [] e (by simp) with ⟨ns, n1, n2⟩ | ⟨_, x, x1, x2⟩
  · rw [nums_dec hu n2] at n1
    simpa using n1
  · obtain ⟨u, u1, rfl⟩ := List.mem_map.1 x1
    exact absurd (spec_dec (hu u u1)) (x2 _)
theorem txt_len {f : SFate} (h : spec_FateFault f = 0) : (txt f).length ≤ 30 := by
  obtain ⟨h1, h2, h3⟩ := fate_ok h
  have l1 := dec_lenK 0 f.Delay.toNat (by simp; omega)
  unfold txt
  split
  · simp [wComes]; omega
  · split
    · simp [wTwice]; omega
    · split
      · rename_i k3
        obtain ⟨g1, g2⟩ := h3 k3
        have l2 := dec_lenK 3 f.At.toNat (Nat.lt_of_le_of_lt (show f.At.toNat ≤ 1279 by omega) (by decide))
        have l3 := dec_lenK 4 f.Bits.toNat (Nat.lt_of_le_of_lt (show f.Bits.toNat ≤ 65535 by omega) (by decide))
        simp [wTurned]; omega
      · simp [wLost]
theorem spec_at {f : SFate} (h : spec_FateFault f = 0) : spec_ReadFate 64 (txt f) = some ⟨0, f⟩ := by
  have h30 := txt_len h
  obtain ⟨h1, h2, h3⟩ := fate_ok h
  obtain ⟨z0, z3⟩ := fate_ok2 h
  have hc := l1Cut_eq (c := 58) (p := txt f) (by omega)
  rw [show ((58 : UInt8).toNat : Int) = 58 from rfl, cut_txt] at hc
  have hl := (cutAux_len 58 (txt f) []).2
  have hs := cut_short (c := 58) (txt f) []
  rw [cut_txt] at hl hs
  have hs' : ∀ x ∈ partsOf f, x.length ≤ 1048576 := fun x q => by have := hs x q; simp at this; omega
  have fin : ∀ (w : List UInt8) (us : List Nat), partsOf f = w :: us.map Lib.decDigits → (∀ u ∈ us, u ≤ 65535) → spec_l22Read_u7 64 (w :: us.map Lib.decDigits) (us.map (fun u : Nat => (u : Int))) = some (.inl (f.Kind, f.Delay, f.At, f.Bits)) → spec_ReadFate 64 (txt f) = some ⟨0, f⟩ := fun w us e hu q => by
    have n := nums_run e (by omega) hs' hu
    unfold spec_ReadFate spec_l22Read
    rw [if_neg (by simp; omega), hc]
    simp only [Option.bind_some]
    rw [n]
    simp only [Option.bind_some, Sum.elim_inl]
    rw [e, q]
    simp only [Option.bind_some, Sum.elim_inl]
    rw [show (SFate.mk f.Kind f.Delay f.At f.Bits) = f from rfl, h]
    rfl
  have hk : f.Kind = 0 ∨ f.Kind = 1 ∨ f.Kind = 2 ∨ f.Kind = 3 := by omega
  rcases hk with k | k | k | k
  · obtain ⟨a0, b0⟩ := z3 (by omega)
    refine fin wLost [] (by simp [partsOf, k]) (by simp) ?_
    rw [k, z0 k, a0, b0]; rfl
  · obtain ⟨a0, b0⟩ := z3 (by omega)
    refine fin wComes [f.Delay.toNat] (by simp [partsOf, k]) (by simp; omega) ?_
    have : ((f.Delay.toNat : Nat) : Int) = f.Delay := by omega
    rw [u7_form, if_pos (by simp), k, a0, b0]; simp [this]
  · obtain ⟨a0, b0⟩ := z3 (by omega)
    refine fin wTwice [f.Delay.toNat] (by simp [partsOf, k]) (by simp; omega) ?_
    have : ((f.Delay.toNat : Nat) : Int) = f.Delay := by omega
    rw [u7_form, if_neg (by simp [wTwice, wComes]), if_pos (by simp), k, a0, b0]; simp [this]
  · obtain ⟨g1, g2⟩ := h3 k
    refine fin wTurned [f.Delay.toNat, f.At.toNat, f.Bits.toNat] (by simp [partsOf, k]) (by simp; omega) ?_
    have t1 : ((f.Delay.toNat : Nat) : Int) = f.Delay := by omega
    have t2 : ((f.At.toNat : Nat) : Int) = f.At := by omega
    have t3 : ((f.Bits.toNat : Nat) : Int) = f.Bits := by omega
    rw [u7_form, if_neg (by simp), if_neg (by simp), if_pos (by simp), k]; simp [t1, t2, t3]
theorem tmod_nn {a b : Int} (ha : 0 ≤ a) (hb : 0 < b) : 0 ≤ a.tmod b ∧ a.tmod b < b := by
  rw [Int.tmod_eq_emod_of_nonneg ha]
  exact ⟨Int.emod_nonneg _ (by omega), Int.emod_lt_of_pos _ hb⟩
def SrcOk (c : List Int) (s : Sl1Src) (k : Int) : Prop := s.Code = c ∧ 0 ≤ s.At ∧ s.At ≤ k
theorem get_mod {c : List Int} {a : Int} (hc : ∀ x ∈ c, 0 ≤ x ∧ x ≤ 255) (ha : 0 ≤ a) (hn : 0 < c.length) : ∃ x, getI c (a.tmod (c.length : Int)) = some x ∧ 0 ≤ x ∧ x ≤ 255 := by
  obtain ⟨h1, h2⟩ := tmod_nn ha (b := (c.length : Int)) (by omega)
  obtain ⟨x, hx, hm⟩ := get_lt (l := c) (i := (a.tmod (c.length : Int)).toNat) (by omega)
  exact ⟨x, by unfold getI; rw [if_pos h1, hx], hc x hm⟩
theorem next_ok {c : List Int} {s : Sl1Src} {k p : Int} (hc : ∀ x ∈ c, 0 ≤ x ∧ x ≤ 255) (hl : (c.length : Int) ≤ 2000000) (hs : SrcOk c s k) (hk : k ≤ 1000000) (hp : 1 ≤ p ∧ p ≤ 100000000) :
    ∃ r, spec_l1Next s p = some (r, ⟨c, s.At + 1⟩) ∧ 0 ≤ r ∧ r < p := by
  obtain ⟨rfl, h0, h1⟩ := hs
  have e1 : IntKind.i64.wrap (s.At + 1) = s.At + 1 := w64 (by omega)
  have e2 : IntKind.i64.wrap (s.At + 1 - 1) = s.At := by rw [w64 (by omega)]; omega
  unfold spec_l1Next
  rw [if_neg (by simp; omega)]
  simp only [e1, e2]
  rcases Nat.eq_zero_or_pos s.Code.length with hz | hz
  · rw [if_pos (by simp [hz]), if_neg (by omega), w64 (by omega)]
    obtain ⟨q1, q2⟩ := tmod_nn (a := s.At * 7) (b := p) (by omega) (by omega)
    exact ⟨_, rfl, q1, q2⟩
  · have hne : ¬ (s.Code.length : Int) = 0 := by omega
    rw [if_neg (by simp; intro h; rw [h] at hz; simp at hz)]
    simp only [hne, if_false]
    obtain ⟨x, hx, hx0, hx1⟩ := get_mod hc h0 hz
    rw [hx]
    simp only [Option.bind_some]
    have hd : 0 ≤ s.At.tdiv (s.Code.length : Int) ∧ s.At.tdiv (s.Code.length : Int) ≤ s.At := by
      rw [Int.tdiv_eq_ediv_of_nonneg h0]
      exact ⟨Int.ediv_nonneg h0 (by omega), Int.ediv_le_self _ h0⟩
    generalize s.At.tdiv (s.Code.length : Int) = d at hd
    rw [w64 (n := x) (by omega), w64 (n := d) (by omega), w64 (n := d * 37) (by omega), w64 (n := x + d * 37) (by omega)]
    have u1 : ∃ v, spec_l1Next_u1 s.Code (s.At + 1) p s.At (s.Code.length : Int) (x + d * 37) (decide (p > 200)) = some v ∧ 0 ≤ v ∧ v ≤ 10000000000 := by
      unfold spec_l1Next_u1
      split
      · rw [w64 (n := s.At + 1) (by omega)]
        obtain ⟨y, hy, hy0, hy1⟩ := get_mod (a := s.At + 1) hc (by omega) hz
        rw [hy]
        simp only [Option.bind_some]
        rw [w64 (n := y) (by omega), w64 (n := y * 13) (by omega), w64 (n := (x + d * 37) * 251) (by omega), w64 (n := (x + d * 37) * 251 + y * 13) (by omega), w64 (n := (x + d * 37) * 251 + y * 13 + s.At) (by omega)]
        exact ⟨_, rfl, by omega, by omega⟩
      · exact ⟨_, rfl, by omega, by omega⟩
    obtain ⟨v, hv, hv0, hv1⟩ := u1
    rw [hv]
    simp only [Option.bind_some]
    have u2 : ∃ v', spec_l1Next_u2 s.Code (s.At + 1) p s.At (s.Code.length : Int) v (decide (p > 60000)) = some v' ∧ 0 ≤ v' := by
      unfold spec_l1Next_u2
      split
      · rw [w64 (n := s.At + 2) (by omega)]
        obtain ⟨y, hy, hy0, hy1⟩ := get_mod (a := s.At + 2) hc (by omega) hz
        rw [hy]
        simp only [Option.bind_some]
        rw [w64 (n := y) (by omega), w64 (n := v * 257) (by omega), w64 (n := v * 257 + y) (by omega)]
        exact ⟨_, rfl, by omega⟩
      · exact ⟨_, rfl, hv0⟩
    obtain ⟨v', hv', hv'0⟩ := u2
    rw [hv']
    simp only [Option.bind_some]
    rw [if_neg (by omega)]
    obtain ⟨q1, q2⟩ := tmod_nn (a := v') (b := p) hv'0 (by omega)
    exact ⟨_, rfl, q1, q2⟩
theorem pick_ok {c : List Int} {s : Sl1Src} {k : Int} {l : List Int} (hc : ∀ x ∈ c, 0 ≤ x ∧ x ≤ 255) (hl : (c.length : Int) ≤ 2000000) (hs : SrcOk c s k) (hk : k ≤ 1000000) (hn : 0 < l.length ∧ l.length ≤ 1000000) :
    ∃ r s', spec_l1Pick s l = some (r, s') ∧ r ∈ l ∧ SrcOk c s' (k + 1) := by
  unfold spec_l1Pick
  obtain ⟨r, h1, h2, h3⟩ := next_ok (p := (l.length : Int)) hc hl hs hk (by omega)
  obtain ⟨x, hx, hm⟩ := get_lt (l := l) (i := r.toNat) (by omega)
  rw [h1]
  obtain ⟨_, a1, a2⟩ := hs
  refine ⟨x, ⟨c, s.At + 1⟩, ?_, hm, rfl, by (first | omega | (simp only []; omega)), by (first | omega | (simp only []; omega))⟩
  simp only [Option.bind_some]
  unfold getI
  rw [if_pos h2, hx]; rfl
theorem source_ok {c : List Int} : SrcOk c (spec_l1Source c) 0 := by unfold SrcOk spec_l1Source; simp
theorem next_ok2 {c : List Int} {s : Sl1Src} {k p : Int} (hc : ∀ x ∈ c, 0 ≤ x ∧ x ≤ 255) (hl : (c.length : Int) ≤ 2000000) (hs : SrcOk c s k) (hk : k ≤ 1000000) (hp : 1 ≤ p ∧ p ≤ 100000000) :
    ∃ r s', spec_l1Next s p = some (r, s') ∧ 0 ≤ r ∧ r < p ∧ SrcOk c s' (k + 1) := by
  obtain ⟨r, h1, h2, h3⟩ := next_ok hc hl hs hk hp
  obtain ⟨_, a1, a2⟩ := hs
  exact ⟨r, _, h1, h2, h3, rfl, by (first | omega | (simp only []; omega)), by (first | omega | (simp only []; omega))⟩
theorem SrcOk.mono {c : List Int} {s : Sl1Src} {k m : Int} (h : SrcOk c s k) (hm : k ≤ m) : SrcOk c s m := ⟨h.1, h.2.1, by have := h.2.2; omega⟩
theorem src_eta (t : Sl1Src) : Sl1Src.mk t.Code t.At = t := rfl
theorem signed_ok {c : List Int} {s : Sl1Src} {k n : Int} (hc : ∀ x ∈ c, 0 ≤ x ∧ x ≤ 255) (hl : (c.length : Int) ≤ 2000000) (hs : SrcOk c s k) (hk : k ≤ 1000000) (hn : 0 ≤ n ∧ n ≤ 10000000) :
    ∃ r s', spec_l1Signed s n = some (r, s') ∧ -n ≤ r ∧ r ≤ n ∧ SrcOk c s' (k + 1) := by
  unfold spec_l1Signed
  rw [w64 (n := 2 * n) (by omega), w64 (n := 2 * n + 1) (by omega)]
  obtain ⟨r, h1, h2, h3⟩ := next_ok (p := 2 * n + 1) hc hl hs hk (by omega)
  rw [h1]
  obtain ⟨_, a1, a2⟩ := hs
  refine ⟨r - n, _, by simp only [Option.bind_some]; rw [w64 (by omega)], by omega, by omega, rfl, by (first | omega | (simp only []; omega)), by (first | omega | (simp only []; omega))⟩
theorem chance_ok {c : List Int} {s : Sl1Src} {k p : Int} (hc : ∀ x ∈ c, 0 ≤ x ∧ x ≤ 255) (hl : (c.length : Int) ≤ 2000000) (hs : SrcOk c s k) (hk : k ≤ 1000000) (hp : 1 ≤ p ∧ p ≤ 100000000) :
    ∃ b s', spec_l1Chance s p = some (b, s') ∧ SrcOk c s' (k + 1) := by
  unfold spec_l1Chance
  obtain ⟨r, s', h, _, _, k'⟩ := next_ok2 hc hl hs hk hp
  rw [h]; exact ⟨_, _, rfl, k'⟩
/-- Small enough to be printed. -/
def Num (v : Int) : Prop := -10000000 ≤ v ∧ v ≤ 10000000
theorem digits_some {v : Int} (h : Num v) : ∃ t, spec_l1Digits 64 v = some t ∧ t.length ≤ 9 := by
  obtain ⟨h1, h2⟩ := h
  by_cases h0 : v < 0
  · rw [spec_l1Digits]
    unfold spec_l1Digits_b
    rw [if_pos (decide_eq_true h0), w64 (by omega)]
    have e := digits_eq 62 (0 - v).toNat (by have : (10000001 : Nat) ≤ 10 ^ 63 := by decide
                                             omega) (by omega)
    rw [Int.toNat_of_nonneg (by omega)] at e
    have hl := dec_lenK 7 (0 - v).toNat (by omega)
    rw [e]
    generalize Lib.decDigits (0 - v).toNat = t at hl
    simp only [Option.bind_some]
    rw [if_pos (by simp; omega)]
    exact ⟨_, rfl, by simp; omega⟩
  · have e := digits_eq 63 v.toNat (by have : (10000001 : Nat) ≤ 10 ^ 64 := by decide
                                       omega) (by omega)
    rw [Int.toNat_of_nonneg (by omega)] at e
    have hl := dec_lenK 7 v.toNat (by omega)
    exact ⟨_, e, by omega⟩
def NumF (f : SFate) : Prop := Num f.Delay ∧ Num f.At ∧ Num f.Bits
theorem fateText_some {f : SFate} (h : NumF f) : ∃ t, spec_l22Fate 64 f = some t ∧ t.length ≤ 60 := by
  obtain ⟨h1, h2, h3⟩ := h
  obtain ⟨d, d1, d2⟩ := digits_some h1
  obtain ⟨a, a1, a2⟩ := digits_some h2
  obtain ⟨b, b1, b2⟩ := digits_some h3
  unfold spec_l22Fate
  split
  · rw [d1]
    simp only [Option.bind_some]
    rw [if_pos (by simp; omega)]
    exact ⟨_, rfl, by simp; omega⟩
  split
  · rw [d1]
    simp only [Option.bind_some]
    rw [if_pos (by simp; omega)]
    exact ⟨_, rfl, by simp; omega⟩
  split
  · rw [d1, a1, b1]
    simp only [Option.bind_some]
    rw [if_pos (by simp; omega), if_pos (by simp; omega), if_pos (by simp; omega), if_pos (by simp; omega), if_pos (by simp; omega)]
    exact ⟨_, rfl, by simp; omega⟩
  · exact ⟨_, rfl, by simp⟩
section
variable {c : List Int} (hc : ∀ x ∈ c, 0 ≤ x ∧ x ≤ 255) (hl : (c.length : Int) ≤ 1048576)
include hc hl
theorem next_ok3 {s : Sl1Src} {k p : Int} (hs : SrcOk c s k) (hk : k ≤ 900000) (hp : 1 ≤ p ∧ p ≤ 100000000) : ∃ r s', spec_l1Next s p = some (r, s') ∧ 0 ≤ r ∧ r < p ∧ SrcOk c s' (k + 1) := next_ok2 hc (by omega) hs (by omega) hp
theorem pick_ok3 {s : Sl1Src} {k : Int} {l : List Int} (hs : SrcOk c s k) (hk : k ≤ 900000) (hn : 0 < l.length ∧ l.length ≤ 1000000) : ∃ r s', spec_l1Pick s l = some (r, s') ∧ r ∈ l ∧ SrcOk c s' (k + 1) := pick_ok hc (by omega) hs (by omega) hn
theorem drawFate_ok {s : Sl1Src} {k q : Int} (hs : SrcOk c s k) (hk : k ≤ 800000) : ∃ f s', spec_l20Fate s q = some (f, s') ∧ NumF f ∧ SrcOk c s' (k + 9) := by
  unfold spec_l20Fate
  obtain ⟨r1, s1, h1, _, _, k1⟩ := next_ok3 hc hl (p := 10) hs (by omega) (by omega)
  simp only [h1, Option.bind_some]
  split
  · obtain ⟨r2, s2, h2, m2, k2⟩ := pick_ok3 hc hl (l := [0, 0, 0, 1]) k1 (by omega) (by simp)
    simp only [h2, Option.bind_some]
    refine ⟨_, _, rfl, ⟨?_, ⟨by simp, by simp⟩, ⟨by simp, by simp⟩⟩, k2.mono (by omega)⟩
    simp at m2
    unfold Num; simp only []; omega
  · obtain ⟨r3, s3, h3, _, _, k3⟩ := next_ok3 hc hl (p := 5) k1 (by omega) (by omega)
    simp only [h3, Option.bind_some]
    split
    · exact ⟨_, _, rfl, ⟨⟨by simp, by simp⟩, ⟨by simp, by simp⟩, ⟨by simp, by simp⟩⟩, k3.mono (by omega)⟩
    split
    · obtain ⟨r4, s4, h4, a4, b4, k4⟩ := next_ok3 hc hl (p := 7) k3 (by omega) (by omega)
      simp only [h4, Option.bind_some]
      exact ⟨_, _, rfl, ⟨⟨by simp only []; omega, by simp only []; omega⟩, ⟨by simp, by simp⟩, ⟨by simp, by simp⟩⟩, k4.mono (by omega)⟩
    split
    · obtain ⟨r4, s4, h4, a4, b4, k4⟩ := next_ok3 hc hl (p := 3) k3 (by omega) (by omega)
      obtain ⟨r5, s5, h5, a5, b5, k5⟩ := next_ok3 hc hl (p := 90) k4 (by omega) (by omega)
      obtain ⟨r6, s6, h6, a6, b6, k6⟩ := next_ok3 hc hl (p := 300) k5 (by omega) (by omega)
      obtain ⟨r7, s7, h7, m7, k7⟩ := pick_ok3 hc hl (l := [r5, r6, 0]) k6 (by omega) (by simp)
      obtain ⟨r8, s8, h8, a8, b8, k8⟩ := next_ok3 hc hl (p := 65535) k7 (by omega) (by omega)
      obtain ⟨r9, s9, h9, m9, k9⟩ := pick_ok3 hc hl (l := [1, 3, 65535, IntKind.i64.wrap (1 + r8)]) k8 (by omega) (by simp)
      simp only [h4, h5, h6, h7, h8, h9, Option.bind_some]
      rw [w64 (by omega)] at m9
      simp at m7 m9
      exact ⟨_, _, rfl, ⟨⟨by simp only []; omega, by simp only []; omega⟩, ⟨by simp only []; omega, by simp only []; omega⟩, ⟨by simp only []; omega, by simp only []; omega⟩⟩, k9.mono (by omega)⟩
    · obtain ⟨r4, s4, h4, a4, b4, k4⟩ := next_ok3 hc hl (p := 7) k3 (by omega) (by omega)
      simp only [h4, Option.bind_some]
      exact ⟨_, _, rfl, ⟨⟨by simp only []; omega, by simp only []; omega⟩, ⟨by simp, by simp⟩, ⟨by simp, by simp⟩⟩, k4.mono (by omega)⟩
theorem bendFate_ok {s : Sl1Src} {k : Int} {f : SFate} (hf : NumF f) (hs : SrcOk c s k) (hk : k ≤ 800000) : ∃ g s', spec_l20Bend s f = some (g, s') ∧ NumF g ∧ SrcOk c s' (k + 2) := by
  obtain ⟨f1, f2, f3⟩ := hf
  unfold spec_l20Bend spec_l20Bend_u2 spec_l20Bend_u1
  obtain ⟨r1, s1, h1, _, _, k1⟩ := next_ok3 hc hl (p := 30) hs (by omega) (by omega)
  simp only [h1, Option.bind_some, src_eta]
  split
  · obtain ⟨r2, s2, h2, m2, k2⟩ := pick_ok3 hc hl (l := [-1, 4, 0, 3]) k1 (by omega) (by simp)
    simp only [h2, Option.bind_some]
    exact ⟨_, _, rfl, ⟨f1, f2, f3⟩, k2.mono (by omega)⟩
  split
  · obtain ⟨r2, s2, h2, m2, k2⟩ := pick_ok3 hc hl (l := [-1, 7]) k1 (by omega) (by simp)
    simp only [h2, Option.bind_some]
    refine ⟨_, _, rfl, ⟨?_, f2, f3⟩, k2.mono (by omega)⟩
    simp at m2; unfold Num; simp only []; omega
  split
  · obtain ⟨r2, s2, h2, m2, k2⟩ := pick_ok3 hc hl (l := [65536, 1]) k1 (by omega) (by simp)
    simp only [h2, Option.bind_some]
    refine ⟨_, _, rfl, ⟨f1, f2, ?_⟩, k2.mono (by omega)⟩
    simp at m2; unfold Num; simp only []; omega
  split
  · obtain ⟨r2, s2, h2, m2, k2⟩ := pick_ok3 hc hl (l := [1280, -1]) k1 (by omega) (by simp)
    simp only [h2, Option.bind_some]
    refine ⟨_, _, rfl, ⟨f1, ?_, f3⟩, k2.mono (by omega)⟩
    simp at m2; unfold Num; simp only []; omega
  · exact ⟨_, _, rfl, ⟨f1, f2, f3⟩, k1.mono (by omega)⟩
omit hc hl in
theorem subI_some {p : List UInt8} {a b : Int} (h0 : 0 ≤ a) (h1 : a ≤ b) (h2 : b ≤ (p.length : Int)) : ∃ q, subI p a b = some q ∧ (q.length : Int) = b - a := by
  unfold subI cutI
  rw [if_pos (by omega), if_pos (by omega)]
  refine ⟨_, rfl, ?_⟩
  simp only [List.length_take, List.length_drop]
  omega
omit hc hl in
theorem bytesI_one {n : Int} : ∃ b, bytesI [n] = some [b] := ⟨_, by rw [bytesI_eq]; rfl⟩
theorem chance_ok3 {s : Sl1Src} {k p : Int} (hs : SrcOk c s k) (hk : k ≤ 900000) (hp : 1 ≤ p ∧ p ≤ 100000000) : ∃ b s', spec_l1Chance s p = some (b, s') ∧ SrcOk c s' (k + 1) := chance_ok hc (by omega) hs (by omega) hp
theorem spoil_ok {s : Sl1Src} {k : Int} {t : List UInt8} (ht : t.length ≤ 100000) (hs : SrcOk c s k) (hk : k ≤ 800000) : ∃ g s', spec_l22Spoil s t = some (g, s') ∧ g.length ≤ t.length + 1 ∧ SrcOk c s' (k + 4) := by
  unfold spec_l22Spoil spec_l22Spoil_u1
  by_cases h0 : (t.length : Int) < 1
  · rw [if_pos (decide_eq_true h0)]
    simp only [Option.bind_some, if_true, src_eta]
    exact ⟨_, _, rfl, by omega, hs.mono (by omega)⟩
  · rw [if_neg (by simpa using h0)]
    obtain ⟨b1, s1, h1, k1⟩ := chance_ok3 hc hl (p := 5) hs (by omega) (by omega)
    simp only [src_eta, h1, Option.bind_some]
    split
    · exact ⟨_, _, rfl, by omega, k1.mono (by omega)⟩
    · obtain ⟨r2, s2, h2, a2, b2, k2⟩ := next_ok3 hc hl (p := (t.length : Int)) k1 (by omega) (by omega)
      obtain ⟨b3, s3, h3, k3⟩ := chance_ok3 hc hl (p := 2) k2 (by omega) (by omega)
      simp only [src_eta, h2, h3, Option.bind_some]
      rw [w64 (by omega)]
      obtain ⟨x, x1, x2⟩ := subI_some (p := t) (a := 0) (b := r2) (by omega) (by omega) (by omega)
      obtain ⟨y, y1, y2⟩ := subI_some (p := t) (a := r2 + 1) (b := (t.length : Int)) (by omega) (by omega) (by omega)
      obtain ⟨z, z1, z2⟩ := subI_some (p := t) (a := r2) (b := (t.length : Int)) (by omega) (by omega) (by omega)
      rw [x1, y1, z1]
      simp only [Option.bind_some]
      split
      · rw [if_pos (by omega)]
        exact ⟨_, _, rfl, by simp; omega, k3.mono (by omega)⟩
      · obtain ⟨r4, s4, h4, _, k4⟩ := pick_ok3 hc hl (l := [58, 48, 45, 32, 120]) k3 (by omega) (by simp)
        simp only [h4, Option.bind_some]
        obtain ⟨b, hb⟩ := bytesI_one (n := IntKind.u8.wrap r4)
        rw [hb]
        simp only [Option.bind_some]
        rw [if_pos (by simp; omega), if_pos (by simp; omega)]
        exact ⟨_, _, rfl, by simp; omega, k4.mono (by omega)⟩
omit hc hl in
theorem clamp_num {v : Int} : Num (spec_Clamp16 v) := by
  unfold spec_Clamp16 Num
  split
  · omega
  · split
    · omega
    · simp at *; omega
theorem sample_ok {s : Sl1Src} {k : Int} {a : List Int} {m n q r t b : Int} (hs : SrcOk c s k) (hk : k ≤ 800000) : ∃ c1 k1 v, spec_l1Samples_u4 a s.Code s.At m n q r t b = some (c1, k1, v) ∧ SrcOk c ⟨c1, k1⟩ (k + 1) := by
  unfold spec_l1Samples_u4 spec_l1Samples_u3
  simp only [src_eta]
  split
  · exact ⟨_, _, _, rfl, hs.mono (by omega)⟩
  split
  · obtain ⟨v, s', h1, _, _, h2⟩ := signed_ok (n := 32767) hc (by omega) hs (by omega) (by omega)
    rw [h1]
    exact ⟨_, _, _, rfl, h2⟩
  split
  · obtain ⟨v, s', h1, _, h2⟩ := pick_ok3 hc hl (l := [32767, -32768, 0]) hs (by omega) (by simp)
    rw [h1]
    exact ⟨_, _, _, rfl, h2⟩
  split
  · obtain ⟨v, s', h1, _, _, h2⟩ := signed_ok (n := 20) hc (by omega) hs (by omega) (by omega)
    rw [h1]
    exact ⟨_, _, _, rfl, h2⟩
  · exact ⟨_, _, _, rfl, hs.mono (by omega)⟩
theorem samplesGo {n p q r : Int} (hn : n ≤ 1000) : ∀ (m : Nat) (i k : Int) (out : List Int) (s : Sl1Src), 0 ≤ i → i + m = n → (out.length : Int) = i → (∀ x ∈ out, Num x) → SrcOk c s k → k + m ≤ 800000 →
    ∃ l s', loopO (spec_l1Samples_s5 n p q r) (out, s.Code, s.At, i) = some (l, s'.Code, s'.At) ∧ (l.length : Int) = n ∧ (∀ x ∈ l, Num x) ∧ SrcOk c s' (k + m)
  | 0, i, k, out, s, h0, h1, h2, h3, h4, h5 => by
    rw [loopO_eq]
    simp only [spec_l1Samples_s5]
    rw [if_neg (by simp; omega)]
    exact ⟨out, s, rfl, by omega, h3, h4.mono (by omega)⟩
  | m + 1, i, k, out, s, h0, h1, h2, h3, h4, h5 => by
    rw [loopO_eq]
    simp only [spec_l1Samples_s5]
    rw [if_pos (by simp; omega)]
    obtain ⟨c1, k1, v, e1, e2⟩ := sample_ok (a := out) (m := n) (n := p) (q := q) (r := r) (t := i) (b := IntKind.i64.wrap (p + IntKind.i64.wrap (q * i))) hc hl h4 (by omega)
    rw [e1]
    simp only [Option.bind_some]
    rw [if_pos (okApp_8 (by simp; omega)), w64 (by omega)]
    obtain ⟨l, s', g1, g2, g3, g4⟩ := samplesGo hn m (i + 1) (k + 1) (out ++ [spec_Clamp16 v]) ⟨c1, k1⟩ (by omega) (by omega) (by simp; omega) (fun x hx => by
      simp at hx
      rcases hx with hx | rfl
      · exact h3 x hx
      · exact clamp_num) e2 (by omega)
    exact ⟨l, s', g1, g2, g3, g4.mono (by omega)⟩
theorem drawSamples_ok {s : Sl1Src} {k n : Int} (hn : 0 ≤ n ∧ n ≤ 1000) (hs : SrcOk c s k) (hk : k ≤ 700000) : ∃ l s', spec_l1Samples s n = some (l, s') ∧ (l.length : Int) = n ∧ (∀ x ∈ l, Num x) ∧ SrcOk c s' (k + 3 + n) := by
  unfold spec_l1Samples
  obtain ⟨r1, s1, h1, _, _, k1⟩ := signed_ok (n := 20000) hc (by omega) hs (by omega) (by omega)
  obtain ⟨r2, s2, h2, _, k2⟩ := pick_ok3 hc hl (l := [0, 1, 50, 700, -300]) k1 (by omega) (by simp)
  obtain ⟨r3, s3, h3, _, _, k3⟩ := next_ok3 hc hl (p := 5) k2 (by omega) (by omega)
  simp only [h1, h2, h3, Option.bind_some]
  obtain ⟨l, s', g1, g2, g3, g4⟩ := samplesGo (p := r1) (q := r2) (r := r3) hc hl hn.2 n.toNat 0 _ [] s3 (by omega) (by omega) (by simp) (by simp) k3 (by omega)
  rw [g1]
  exact ⟨_, _, rfl, g2, g3, g4.mono (by omega)⟩
theorem backFate_ok {s : Sl1Src} {k : Int} (hs : SrcOk c s k) (hk : k ≤ 800000) : ∃ f s', spec_l20Back s = some (f, s') ∧ NumF f ∧ SrcOk c s' (k + 2) := by
  unfold spec_l20Back
  obtain ⟨b1, s1, h1, k1⟩ := chance_ok3 hc hl (p := 4) hs (by omega) (by omega)
  simp only [h1, Option.bind_some]
  split
  · exact ⟨_, _, rfl, ⟨⟨by simp, by simp⟩, ⟨by simp, by simp⟩, ⟨by simp, by simp⟩⟩, k1.mono (by omega)⟩
  · obtain ⟨r2, s2, h2, m2, k2⟩ := pick_ok3 hc hl (l := [0, 0, 1, 3]) k1 (by omega) (by simp)
    simp only [h2, Option.bind_some]
    refine ⟨_, _, rfl, ⟨?_, ⟨by simp, by simp⟩, ⟨by simp, by simp⟩⟩, k2.mono (by omega)⟩
    simp at m2; unfold Num; simp only []; omega
theorem drawStep_ok {s : Sl1Src} {k n q : Int} (hn : 0 ≤ n ∧ n ≤ 1000) (hs : SrcOk c s k) (hk : k ≤ 700000) : ∃ t s', spec_l20Step s n q = some (t, s') ∧ (t.Frame.length : Int) = n ∧ (∀ x ∈ t.Frame, Num x) ∧ NumF t.A ∧ NumF t.B ∧ NumF t.R ∧ SrcOk c s' (k + 23 + n) := by
  unfold spec_l20Step
  obtain ⟨l, s1, h1, a1, b1, k1⟩ := drawSamples_ok hc hl hn hs (by omega)
  obtain ⟨f, s2, h2, a2, k2⟩ := drawFate_ok (q := q) hc hl k1 (by omega)
  obtain ⟨g, s3, h3, a3, k3⟩ := drawFate_ok (q := q) hc hl k2 (by omega)
  obtain ⟨e, s4, h4, a4, k4⟩ := backFate_ok hc hl k3 (by omega)
  simp only [h1, h2, h3, h4, Option.bind_some]
  exact ⟨_, _, rfl, a1, b1, a2, a3, a4, k4.mono (by omega)⟩
omit hc hl in
theorem numbersGo {l : List Int} (hx : ∀ x ∈ l, Num x) (hn : l.length ≤ 1000) : ∀ (m i : Nat) (t : List UInt8), i + m = l.length → t.length ≤ 10 * i → ∃ g, loopO (spec_l22Numbers_s3 64 l) (t, (i : Int)) = some g ∧ g.length ≤ 10 * l.length
  | 0, i, t, h1, h2 => by
    rw [loopO_eq]
    simp only [spec_l22Numbers_s3]
    rw [if_neg (by simp; omega)]
    exact ⟨t, rfl, by omega⟩
  | m + 1, i, t, h1, h2 => by
    rw [loopO_eq]
    simp only [spec_l22Numbers_s3]
    rw [if_pos (by simp; omega)]
    obtain ⟨x, x1, x2⟩ := get_lt (l := l) (i := i) (by omega)
    obtain ⟨d, d1, d2⟩ := digits_some (hx x x2)
    have hu : ∃ u, spec_l22Numbers_u2 64 l t (i : Int) (decide ((i : Int) > 0)) = some u ∧ u.length ≤ 10 * i + 1 := by
      unfold spec_l22Numbers_u2
      split
      · rw [if_pos (by simp; omega)]
        exact ⟨_, rfl, by simp; omega⟩
      · exact ⟨_, rfl, by omega⟩
    obtain ⟨u, u1, u2⟩ := hu
    rw [u1, getI_nat, x1]
    simp only [Option.bind_some, d1]
    rw [if_pos (by omega), w64 (by omega)]
    exact numbersGo hx hn m (i + 1) (u ++ d) (by omega) (by simp; omega)
omit hc hl in
theorem numbers_ok {l : List Int} (hx : ∀ x ∈ l, Num x) (hn : l.length ≤ 1000) : ∃ g, spec_l22Numbers 64 l = some g ∧ g.length ≤ 10 * l.length := by
  unfold spec_l22Numbers
  obtain ⟨g, h1, h2⟩ := numbersGo hx hn l.length 0 [] (by omega) (by simp)
  exact ⟨g, by rw [show ((0 : Int)) = ((0 : Nat) : Int) from rfl, h1]; rfl, h2⟩
theorem drawLine_ok {s : Sl1Src} {k n : Int} (hn : 0 ≤ n ∧ n ≤ 1000) (hs : SrcOk c s k) (hk : k ≤ 600000) : ∃ t s', spec_l22Line 64 s n = some (t, s') ∧ (t.length : Int) ≤ 10 * n + 300 ∧ SrcOk c s' (k + 40 + n) := by
  unfold spec_l22Line
  obtain ⟨r1, s1, h1, _, k1⟩ := pick_ok3 hc hl (l := [4, 9]) hs (by omega) (by simp)
  obtain ⟨t, s2, h2, t1, t2, t3, t4, t5, k2⟩ := drawStep_ok (n := n) (q := r1) hc hl hn k1 (by omega)
  obtain ⟨b3, s3, h3, k3⟩ := chance_ok3 hc hl (p := 3) k2 (by omega) (by omega)
  simp only [h1, h2, h3, Option.bind_some]
  split
  · obtain ⟨r4, s4, h4, a4, b4, k4⟩ := next_ok3 hc hl (p := 12) k3 (by omega) (by omega)
    simp only [h4, Option.bind_some]
    have : r4 = 0 ∨ r4 = 1 ∨ r4 = 2 ∨ r4 = 3 ∨ r4 = 4 ∨ r4 = 5 ∨ r4 = 6 ∨ r4 = 7 ∨ r4 = 8 ∨ r4 = 9 ∨ r4 = 10 ∨ r4 = 11 := by omega
    rcases this with rfl | rfl | rfl | rfl | rfl | rfl | rfl | rfl | rfl | rfl | rfl | rfl <;> exact ⟨_, _, rfl, by simp; omega, k4.mono (by omega)⟩
  · obtain ⟨g, g1, g2⟩ := numbers_ok t2 (by omega)
    obtain ⟨a, a1, a2⟩ := fateText_some t3
    obtain ⟨b, b1, b2⟩ := fateText_some t4
    obtain ⟨r, e1, e2⟩ := fateText_some t5
    simp only [g1, a1, b1, e1, Option.bind_some]
    rw [if_pos (by simp; omega), if_pos (by simp; omega), if_pos (by simp; omega), if_pos (by simp; omega), if_pos (by simp; omega), if_pos (by simp; omega), if_pos (by simp; omega)]
    obtain ⟨y, s5, h5, y1, k5⟩ := spoil_ok hc hl (t := [115, 97, 121, 32] ++ g ++ [32] ++ a ++ [32] ++ b ++ [32] ++ r) (by simp; omega) k3 (by omega)
    rw [h5]
    exact ⟨_, _, rfl, by simp at y1; simp only []; omega, k5.mono (by omega)⟩
theorem wordsGo : ∀ (m : Nat) (k : Int) (s : Sl1Src) (t : List UInt8), 2001 ≤ t.length + m → t.length ≤ 2001 → SrcOk c s k → k + m ≤ 700000 → ∃ g, loopO (spec_DrawWordsOf_s1 64) (s.Code, s.At, t) = some g ∧ g.length ≤ 2001
  | m, k, s, t, h1, h2, h3, h4 => by
    rw [loopO_eq]
    simp only [spec_DrawWordsOf_s1, src_eta]
    obtain ⟨r, s1, e1, e2, k1⟩ := pick_ok3 hc hl (l := [2000, 2001]) h3 (by omega) (by simp)
    rw [e1]
    simp only [Option.bind_some]
    simp at e2
    by_cases q : (t.length : Int) < r
    · rw [if_pos (decide_eq_true q), if_pos (by simp; omega)]
      cases m with
      | zero => exact absurd h1 (by omega)
      | succ m => exact wordsGo m (k + 1) s1 (t ++ [97]) (by simp; omega) (by simp; omega) k1 (by omega)
    · rw [if_neg (by simpa using q)]
      exact ⟨t, rfl, h2⟩
theorem drawWords_ok : ∃ t, spec_DrawWordsOf 64 c = some t ∧ t.length ≤ 2001 := by
  unfold spec_DrawWordsOf spec_DrawWordsOf_u2
  obtain ⟨t, s1, h1, t1, k1⟩ := drawLine_ok (n := 4) hc hl (by omega) source_ok (by omega)
  rw [h1]
  simp only [Option.bind_some]
  rw [if_pos (by simp; omega)]
  obtain ⟨b2, s2, h2, k2⟩ := chance_ok3 hc hl (p := 20) k1 (by omega) (by omega)
  rw [h2]
  simp only [Option.bind_some]
  split
  · obtain ⟨g, g1, g2⟩ := wordsGo hc hl 2001 _ s2 ([32] ++ t) (by simp) (by simp; omega) k2 (by omega)
    rw [g1]
    exact ⟨g, rfl, g2⟩
  · exact ⟨_, rfl, by simp; omega⟩
--REST0
theorem drawFateFault_ok : ∃ f, spec_DrawFateFault c = some f ∧ NumF f := by
  unfold spec_DrawFateFault
  obtain ⟨f, s1, h1, f1, k1⟩ := drawFate_ok (q := 4) hc hl source_ok (by omega)
  obtain ⟨g, s2, h2, g1, k2⟩ := bendFate_ok hc hl f1 k1 (by omega)
  simp only [h1, h2, Option.bind_some]
  exact ⟨_, rfl, g1⟩
theorem drawReadFate_ok : ∃ t, spec_DrawReadFate 64 c = some t ∧ t.length ≤ 100 := by
  unfold spec_DrawReadFate
  obtain ⟨f, s1, h1, f1, k1⟩ := drawFate_ok (q := 4) hc hl source_ok (by omega)
  obtain ⟨g, s2, h2, g1, k2⟩ := bendFate_ok hc hl f1 k1 (by omega)
  obtain ⟨t, t1, t2⟩ := fateText_some g1
  obtain ⟨u, s3, h3, u1, k3⟩ := spoil_ok (t := t) hc hl (by omega) k2 (by omega)
  simp only [h1, h2, t1, h3, Option.bind_some]
  exact ⟨_, rfl, by omega⟩
theorem drawReadNumber_ok : ∃ t, spec_DrawReadNumber 64 c = some t ∧ t.length ≤ 100 := by
  unfold spec_DrawReadNumber
  obtain ⟨r1, s1, h1, a1, b1, k1⟩ := signed_ok (n := 40000) hc (by omega) source_ok (by omega) (by omega)
  obtain ⟨r2, s2, h2, a2, b2, k2⟩ := signed_ok (n := 40000) hc (by omega) k1 (by omega) (by omega)
  obtain ⟨r3, s3, h3, m3, k3⟩ := pick_ok3 hc hl (l := [0, 7, -7, 9999999, -9999999, 10000000, r1, r2]) k2 (by omega) (by simp)
  have hn : Num r3 := by simp at m3; unfold Num; omega
  obtain ⟨t, t1, t2⟩ := digits_some hn
  obtain ⟨u, s4, h4, u1, k4⟩ := spoil_ok (t := t) hc hl (by omega) k3 (by omega)
  simp only [h1, h2, h3, t1, h4, Option.bind_some]
  exact ⟨_, rfl, by omega⟩
end
theorem words_same {p : List UInt8} (hp : p.length ≤ 1048576) : ∃ g, spec_WordsOf p = some g ∧ impl_WordsOf p = some g := by
  unfold spec_WordsOf impl_WordsOf
  by_cases h2 : (p.length : Int) > 2000
  · rw [if_pos (decide_eq_true h2), if_pos (decide_eq_true h2)]
    exact ⟨_, rfl, rfl⟩
  · rw [if_neg (by simpa using h2), if_neg (by simpa using h2)]
    obtain ⟨a, b⟩ := wordsOf_same (p := p) (by omega)
    rw [a, b]
    exact ⟨_, rfl, rfl⟩
theorem fateText_form {f : SFate} : ∃ t, impl_FateText f = some t ∧ t.Code = spec_FateFault f ∧ (spec_FateFault f = 0 → t.Text = txt f) := by
  unfold impl_FateText
  rw [fate_same]
  simp only [Option.bind_some]
  by_cases h : spec_FateFault f = 0
  · rw [h, fateText_eq h]
    exact ⟨_, rfl, rfl, fun _ => rfl⟩
  · rw [if_pos (by simpa using h)]
    exact ⟨_, rfl, rfl, fun q => absurd q h⟩
theorem pure (c : List Int) (hc : (c.length : Int) ≤ maxI ∧ ∀ x ∈ c, WfI .u8 x) : laws_FnTellings 64 c = some true := by
  unfold laws_FnTellings
  by_cases hb : laws_lwBig c = true
  · rw [if_pos hb]
  rw [if_neg hb]
  have hl : (c.length : Int) ≤ 1048576 := by simp [laws_lwBig] at hb; omega
  have hc' : ∀ x ∈ c, 0 ≤ x ∧ x ≤ 255 := fun x hx => wfU8.1 (hc.2 x hx)
  obtain ⟨f, f1, f2⟩ := drawFateFault_ok hc' hl
  obtain ⟨t, t1, t2, t3⟩ := fateText_form (f := f)
  obtain ⟨s, s1, s2⟩ := drawReadFate_ok hc' hl
  obtain ⟨n, n1, n2⟩ := drawReadNumber_ok hc' hl
  obtain ⟨l, l1, l2⟩ := drawWords_ok hc' hl
  obtain ⟨r, r1, r2⟩ := spec_fate (p := s) (by omega)
  obtain ⟨r', r1', r2'⟩ := impl_fate (p := s) (by omega)
  have hr : r' = r := by
    rcases r2 with rfl | ⟨f, rfl, hf, q⟩
    · rcases r2' with rfl | ⟨f, rfl, hf, q⟩
      · rfl
      · subst q; rw [spec_at hf] at r1; exact Option.some.inj r1
    · subst q
      rw [impl_at hf (by omega)] at r1'; exact (Option.some.inj r1').symm
  subst hr
  obtain ⟨e, v, hv⟩ := number_eq (p := n) (by omega)
  obtain ⟨g, g1, g2⟩ := words_same (p := l) (by omega)
  have hD : spec_DrawFateText c = some f := by unfold spec_DrawFateText; rw [f1]; rfl
  simp only [hD, t1, s1, r1', n1, hv, l1, g2, Option.bind_some]
  have u1 : laws_FnTellings_u1 64 f.Kind f.Delay f.At f.Bits t.Code t.Text r'.Code r'.Fate.Kind r'.Fate.Delay r'.Fate.At r'.Fate.Bits v.Code v.Value g.Code g.Words s n l = some false := by
    unfold laws_FnTellings_u1
    rw [if_neg (by simp [t2])]
    simp only [r1, Option.bind_some, bne_self_eq_false, Bool.false_eq_true, if_false, e, hv, g1, beq_self_eq_true, Bool.and_self, if_true]
  rw [u1]
  simp only [Option.bind_some, Bool.false_eq_true, if_false]
  have u2 : laws_FnTellings_u2 64 f.Kind f.Delay f.At f.Bits t.Code t.Text r'.Code r'.Fate.Kind r'.Fate.Delay r'.Fate.At r'.Fate.Bits s = some false := by
    unfold laws_FnTellings_u2
    rcases r2' with rfl | ⟨f', rfl, hf, q⟩
    · rw [if_neg (by simp)]
    · obtain ⟨t', x1, x2, x3⟩ := fateText_form (f := f')
      simp only [beq_self_eq_true, if_true]
      rw [show (SFate.mk f'.Kind f'.Delay f'.At f'.Bits) = f' from rfl, x1]
      simp only [Option.bind_some, x3 hf, q, beq_self_eq_true, Bool.not_true]
  rw [u2]
  simp only [Option.bind_some, Bool.false_eq_true, if_false]
  have u3 : laws_FnTellings_u3 64 f.Kind f.Delay f.At f.Bits t.Code t.Text = some true := by
    unfold laws_FnTellings_u3
    by_cases h0 : spec_FateFault f = 0
    · rw [if_neg (by simp [t2, h0]), t3 h0, impl_at h0 (by have := txt_len h0; omega)]
      simp
    · rw [if_pos (by simpa [t2] using h0)]
  rw [u3]
  rfl
end FnTellings
end Go.Proofs.YtimgmahlbodfiaaDoor.Wm
