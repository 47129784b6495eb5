/- What FnExactReadNumber comes to on plain values: true. -/
import Derived.Test.YtpioljlgmhehhaaDoorFnFnExactReadNumber
set_option linter.unusedSimpArgs false
set_option linter.unusedVariables false
set_option maxRecDepth 100000
namespace Go.Proofs.YtpioljlgmhehhaaDoor.Wm
open Go
namespace FnExactReadNumber
theorem dec_len : ∀ u : Nat, (Lib.decDigits u).length ≤ u + 1 := by
  intro u
  induction u using Nat.strongRecOn with
  | ind u ih =>
    rw [Lib.decDigits]
    split
    · simp
    · rename_i h
      have := ih (u / 10) (by omega)
      simp only [List.length_append, List.length_cons, List.length_nil]; omega
theorem digits_eq : ∀ (k : Nat) (n : Nat), n < 10 ^ (k + 1) → n ≤ 1000000000 → spec_l1Digits (k + 1) (n : Int) = some (Lib.decDigits n)
  | k, n, h, hs => by
    rw [spec_l1Digits, Lib.decDigits]
    unfold spec_l1Digits_b spec_l1Digits_u1
    rw [if_neg (by simp)]
    by_cases h1 : n < 10
    · rw [if_pos (by simp; omega), dif_pos h1, w64 (by omega), wu8 (by omega), bytesI_eq]
      simp only [Option.bind_some, List.map_cons, List.map_nil]
      congr 3
    · rw [if_neg (by simp; omega), dif_neg h1]
      have e1 : IntKind.i64.wrap ((n : Int).tdiv 10) = ((n / 10 : Nat) : Int) := by rw [Int.tdiv_eq_ediv_of_nonneg (by omega), w64 (by omega)]; omega
      have e2 : (n : Int).tmod 10 = ((n % 10 : Nat) : Int) := by rw [Int.tmod_eq_emod_of_nonneg (by omega)]; omega
      have hl := dec_len (n / 10)
      obtain ⟨j, rfl⟩ : ∃ j, k = j + 1 := by
        cases k with
        | zero => exact absurd (by simpa using h) h1
        | succ j => exact ⟨j, rfl⟩
      rw [e1, e2, digits_eq j (n / 10) (by rw [Nat.pow_succ] at h; omega) (by omega), w64 (by omega), wu8 (by omega), bytesI_eq]
      simp only [Option.bind_some, List.map_cons, List.map_nil]
      rw [if_pos (by simp; omega)]
      congr 4
def isD (c : UInt8) : Bool := decide (48 ≤ c.toNat ∧ c.toNat ≤ 57)
def valD (a : Nat) (l : List UInt8) : Nat := l.foldl (fun a c => a * 10 + (c.toNat - 48)) a
theorem valD_nil {a : Nat} : valD a [] = a := rfl
theorem valD_cons {a : Nat} {c : UInt8} {l : List UInt8} : valD a (c :: l) = valD (a * 10 + (c.toNat - 48)) l := by simp only [valD, List.foldl_cons]
theorem valD_app (l : List UInt8) (a : Nat) (c : UInt8) : valD a (l ++ [c]) = valD a l * 10 + (c.toNat - 48) := by
  simp only [valD, List.foldl_append, List.foldl_cons, List.foldl_nil]
theorem ofNat_dig {n : Nat} (h : n < 10) : (UInt8.ofNat (48 + n)).toNat = 48 + n := by
  rw [UInt8.toNat_ofNat']; omega
theorem dec_dig : ∀ u : Nat, (Lib.decDigits u).all isD = true := by
  intro u
  induction u using Nat.strongRecOn with
  | ind u ih =>
    rw [Lib.decDigits]
    split
    · rename_i h
      simp only [List.all_cons, List.all_nil, Bool.and_true, isD, ofNat_dig h]
      exact decide_eq_true (by omega)
    · rename_i h
      simp only [List.all_append, ih (u / 10) (by omega), Bool.true_and, List.all_cons, List.all_nil, Bool.and_true, isD, ofNat_dig (show u % 10 < 10 by omega)]
      exact decide_eq_true (by omega)
theorem dec_val : ∀ u : Nat, valD 0 (Lib.decDigits u) = u := by
  intro u
  induction u using Nat.strongRecOn with
  | ind u ih =>
    rw [Lib.decDigits]
    split
    · rename_i h
      rw [valD_cons, valD_nil, ofNat_dig h]; omega
    · rename_i h
      rw [valD_app, ih (u / 10) (by omega), ofNat_dig (show u % 10 < 10 by omega)]; omega
theorem isD_iff {c : UInt8} : isD c = true ↔ 48 ≤ c.toNat ∧ c.toNat ≤ 57 := by simp [isD]
theorem valD_lt : ∀ (l : List UInt8) (a k : Nat), a + 1 ≤ 10 ^ k → l.all isD = true → valD a l + 1 ≤ 10 ^ (k + l.length)
  | [], a, k, h, _ => by rw [valD_nil]; exact h
  | c :: l, a, k, h, hd => by
    simp only [List.all_cons, Bool.and_eq_true, isD_iff] at hd
    have := valD_lt l (a * 10 + (c.toNat - 48)) (k + 1) (by rw [Nat.pow_succ]; omega) hd.2
    rw [List.length_cons, show k + (l.length + 1) = k + 1 + l.length by omega, valD_cons]
    exact this
theorem ten7 : ∀ {k : Nat}, k ≤ 7 → 10 ^ k ≤ 10000000 := by
  intro k hk
  have : 10 ^ k ≤ 10 ^ 7 := Nat.pow_le_pow_right (by omega) hk
  omega
theorem parse_small : ∀ (l : List UInt8) (a k : Nat), a + 1 ≤ 10 ^ k → k + l.length ≤ 7 → l.all isD = true → Lib.parseUintM (2 ^ 64 - 1) a l = .ok (valD a l)
  | [], a, k, h, _, _ => rfl
  | c :: l, a, k, h, hk, hd => by
    simp only [List.all_cons, Bool.and_eq_true, isD_iff] at hd
    simp only [List.length_cons] at hk
    have h7 := ten7 (k := k) (by omega)
    have ih := parse_small l (a * 10 + (c.toNat - 48)) (k + 1) (by rw [Nat.pow_succ]; omega) (by omega) hd.2
    rw [Lib.parseUintM, if_pos hd.1, if_neg (by omega), if_neg (by omega), ih, valD_cons]
def sgn (neg : Bool) (u : Nat) : Int := if neg = true then -(u : Int) else u
theorem digitsI {v : Int} (h : -9999999 ≤ v ∧ v ≤ 9999999) : spec_l1Digits 64 v = some (Lib.itoa v) := by
  by_cases hv : v < 0
  · rw [spec_l1Digits]
    unfold spec_l1Digits_b
    rw [if_pos (by simpa using hv), w64 (by omega)]
    have e : (0 : Int) - v = ((v.natAbs : Nat) : Int) := by omega
    have hl := dec_len v.natAbs
    rw [e, digits_eq 62 v.natAbs (Nat.lt_of_le_of_lt (show v.natAbs ≤ 9999999 by omega) (by decide)) (by omega)]
    simp only [Option.bind_some]
    rw [if_pos (by simp; omega)]
    unfold Lib.itoa
    rw [if_pos hv]; rfl
  · have := digits_eq 63 v.toNat (Nat.lt_of_le_of_lt (show v.toNat ≤ 9999999 by omega) (by decide)) (by omega)
    rw [Int.toNat_of_nonneg (by omega)] at this
    rw [this]
    unfold Lib.itoa
    rw [if_neg hv]
theorem scan {p : List UInt8} {f : Int} (hp : p.length ≤ 1048576) : ∀ (rest pre : List UInt8) (acc j : Nat), p = pre ++ rest → acc + 1 ≤ 10 ^ j → j + rest.length ≤ 7 →
    loopO (spec_ReadNumber_s6 64 p f) ((acc : Int), (pre.length : Int)) = some (if rest.all isD = true then .inl (valD acc rest : Int) else .inr ())
  | [], pre, acc, j, e, ha, hj => by
    have hl : p.length = pre.length := by rw [e]; simp
    rw [loopO_eq]
    simp only [spec_ReadNumber_s6, decide_eq_true_eq]
    rw [if_neg (by omega)]
    simp [valD_nil]
  | c :: rest, pre, acc, j, e, ha, hj => by
    have hl : p.length = pre.length + (rest.length + 1) := by rw [e]; simp
    simp only [List.length_cons] at hj
    have h7 := ten7 (k := j) (by omega)
    have hc : p[pre.length]? = some c := by rw [e]; simp
    have hb : c.toNat < 256 := c.toNat_lt
    rw [loopO_eq]
    simp only [spec_ReadNumber_s6, spec_ReadNumber_u5, decide_eq_true_eq, getI_nat, hc, Option.bind_some]
    rw [if_pos (by omega)]
    by_cases hd : 48 ≤ c.toNat ∧ c.toNat ≤ 57
    · have ih := scan (f := f) hp rest (pre ++ [c]) (acc * 10 + (c.toNat - 48)) (j + 1) (by rw [e]; simp) (by rw [Nat.pow_succ]; omega) (by omega)
      rw [if_neg (by omega)]
      simp only [Option.bind_some, decide_eq_true_eq]
      rw [if_neg (by omega), wu8 (by omega), w64 (n := (c.toNat : Int) - 48) (by omega), w64 (n := (acc : Int) * 10) (by omega), w64 (n := (acc : Int) * 10 + ((c.toNat : Int) - 48)) (by omega), w64 (n := (pre.length : Int) + 1) (by omega)]
      have e1 : (acc : Int) * 10 + ((c.toNat : Int) - 48) = ((acc * 10 + (c.toNat - 48) : Nat) : Int) := by omega
      have e2 : (pre.length : Int) + 1 = ((pre ++ [c]).length : Int) := by simp
      rw [e1, e2]
      simp only []
      rw [ih]
      simp only [List.all_cons, isD_iff.2 hd, Bool.true_and, valD_cons]
    · have hf : (c :: rest).all isD = false := by
        simp only [List.all_cons]
        have : isD c = false := by simpa [isD] using hd
        rw [this]; rfl
      rw [hf]
      by_cases h1 : (c.toNat : Int) < 48
      · rw [if_pos h1]
        simp
      · rw [if_neg h1]
        have : (c.toNat : Int) > 57 := by omega
        simp [this]
def bodyOf (c : UInt8) (r : List UInt8) : List UInt8 := if c.toNat = 45 then r else c :: r
theorem spec_form {c : UInt8} {r : List UInt8} (hp : (c :: r).length ≤ 1048576) : spec_ReadNumber 64 (c :: r) = some (if 1 ≤ (bodyOf c r).length ∧ (bodyOf c r).length ≤ 7 ∧ (bodyOf c r).all isD = true ∧ Lib.itoa (sgn (decide (c.toNat = 45)) (valD 0 (bodyOf c r))) = c :: r then ⟨0, sgn (decide (c.toNat = 45)) (valD 0 (bodyOf c r))⟩ else ⟨5, 0⟩) := by
  have hlen : (c :: r).length = r.length + 1 := rfl
  have fin : ∀ (f : Int) (pre : List UInt8), f = (if c.toNat = 45 then 1 else 0) → c :: r = pre ++ bodyOf c r → (pre.length : Int) = f → (bodyOf c r).length ≤ 7 → 1 ≤ (bodyOf c r).length →
      ((loopO (spec_ReadNumber_s6 64 (c :: r) f) ((0 : Int), f)).bind fun t => (Sum.elim (fun y42 => let y46 := spec_ReadNumber_u7 64 (c :: r) y42 (f == 1)
      (spec_l1Digits 64 y46).bind fun r47 =>
      if (r47 == (c :: r)) = true then some ((SIntResult.mk 0 y46))
      else some ((SIntResult.mk 5 0)))
     (fun y48 => some ((SIntResult.mk 5 0)))) t) = some (if 1 ≤ (bodyOf c r).length ∧ (bodyOf c r).length ≤ 7 ∧ (bodyOf c r).all isD = true ∧ Lib.itoa (sgn (decide (c.toNat = 45)) (valD 0 (bodyOf c r))) = c :: r then ⟨0, sgn (decide (c.toNat = 45)) (valD 0 (bodyOf c r))⟩ else ⟨5, 0⟩) := by
    intro f pre hf hpre hpl h7 h1
    have := scan (f := f) hp (bodyOf c r) pre 0 0 hpre (by simp) (by omega)
    rw [hpl] at this
    have e0 : ((0 : Nat) : Int) = 0 := rfl
    rw [e0] at this
    rw [this]
    simp only [Option.bind_some]
    cases hd : (bodyOf c r).all isD with
    | false => simp
    | true =>
      have hv := valD_lt (bodyOf c r) 0 0 (by simp) hd
      have ht := ten7 (k := 0 + (bodyOf c r).length) (by omega)
      have hs : spec_ReadNumber_u7 64 (c :: r) (valD 0 (bodyOf c r) : Int) (f == 1) = sgn (decide (c.toNat = 45)) (valD 0 (bodyOf c r)) := by
        unfold spec_ReadNumber_u7 sgn
        by_cases hn : c.toNat = 45
        · rw [if_pos hn] at hf
          subst hf
          rw [if_pos (by rfl), if_pos (by simp [hn]), w64 (by omega)]; omega
        · rw [if_neg hn] at hf
          subst hf
          rw [if_neg (by decide), if_neg (by simp [hn])]
      have hb : -9999999 ≤ sgn (decide (c.toNat = 45)) (valD 0 (bodyOf c r)) ∧ sgn (decide (c.toNat = 45)) (valD 0 (bodyOf c r)) ≤ 9999999 := by
        unfold sgn
        split <;> omega
      simp only [if_true, Sum.elim_inl, hs, digitsI hb, Option.bind_some, h1, h7, true_and, beq_iff_eq]
      split <;> rfl
  unfold spec_ReadNumber spec_ReadNumber_u1 spec_ReadNumber_u2 spec_ReadNumber_u3
  rw [if_pos (decide_eq_true (by omega))]
  have g0 : getI (c :: r) 0 = some c := rfl
  rw [g0]
  simp only [Option.bind_some, decide_eq_true_eq]
  by_cases hn : c.toNat = 45
  · have e1 : ((c.toNat : Int) == 45) = true := by simp; omega
    rw [e1]
    simp only [if_true]
    have hbody : bodyOf c r = r := by unfold bodyOf; rw [if_pos hn]
    rw [w64 (by simp; omega)]
    by_cases ha : ((c :: r).length : Int) - 1 < 1
    · rw [if_pos ha]
      have : ¬ (1 ≤ (bodyOf c r).length) := by rw [hbody]; omega
      simp [this]
    · rw [if_neg ha]
      by_cases hb : ((c :: r).length : Int) - 1 > 7
      · rw [if_pos (by simpa using hb)]
        have : ¬ ((bodyOf c r).length ≤ 7) := by rw [hbody]; omega
        simp [this]
      · rw [if_neg (by simpa using hb)]
        exact fin 1 [c] (by rw [if_pos hn]) (by rw [hbody]; rfl) rfl (by rw [hbody]; omega) (by rw [hbody]; omega)
  · have e1 : ((c.toNat : Int) == 45) = false := by simp; omega
    rw [e1]
    simp only [Bool.false_eq_true, if_false]
    have hbody : bodyOf c r = c :: r := by unfold bodyOf; rw [if_neg hn]
    rw [w64 (by simp; omega)]
    by_cases ha : ((c :: r).length : Int) - 0 < 1
    · omega
    · rw [if_neg ha]
      by_cases hb : ((c :: r).length : Int) - 0 > 7
      · rw [if_pos (by simpa using hb)]
        have : ¬ ((bodyOf c r).length ≤ 7) := by rw [hbody]; omega
        simp [this]
      · rw [if_neg (by simpa using hb)]
        exact fin 0 [] (by rw [if_neg hn]) (by rw [hbody]; rfl) rfl (by rw [hbody]; omega) (by rw [hbody]; omega)
theorem u8_45 {c : UInt8} : c.toNat = 45 ↔ c = 45 := ⟨fun h => UInt8.toNat_inj.1 (by rw [h]; rfl), fun h => by rw [h]; rfl⟩
theorem trim_eq {c : UInt8} {r : List UInt8} (hp : (c :: r).length ≤ 1048576) : strings_TrimPrefix (c :: r) [45] = some (bodyOf c r) := by
  have hl : (c :: r).length = r.length + 1 := rfl
  have s1 : subI (c :: r) 0 (([45] : List UInt8).length : Int) = some [c] := by
    unfold subI cutI
    rw [if_pos (by simp; omega)]; simp
  have s2 : subI (c :: r) (([45] : List UInt8).length : Int) ((c :: r).length : Int) = some r := by
    unfold subI cutI
    rw [if_pos (by simp; omega), if_pos (by simp; omega)]; simp
  unfold strings_TrimPrefix internal_stringslite_TrimPrefix internal_stringslite_HasPrefix internal_stringslite_HasPrefix_u1 bodyOf
  rw [if_pos (decide_eq_true (by simp; omega)), s1, s2]
  simp only [Option.bind_some]
  by_cases h : c.toNat = 45
  · have h' := u8_45.1 h
    subst h'
    simp
  · have h' : ¬ (c = 45) := fun e => h (u8_45.2 e)
    have : ([c] == [(45 : UInt8)]) = false := by simp [h']
    rw [this]
    simp [h]
theorem parse_bound {p : List UInt8} (h : (parseI p).2 = true) : okI64 (parseI p).1 = true := by
  unfold parseI at h ⊢
  rcases hp : Lib.parseIntB 64 p with v | _ | _
  · have := Lib.parseIntB_bounds hp
    simp only
    exact decide_eq_true (by omega)
  · rw [hp] at h; simp at h
  · rw [hp] at h; simp at h
theorem impl_form {c : UInt8} {r : List UInt8} (hp : (c :: r).length ≤ 1048576) : impl_ReadNumber (c :: r) = some (if (parseI (c :: r)).2 = true ∧ Lib.itoa (parseI (c :: r)).1 = c :: r ∧ (bodyOf c r).length ≤ 7 then ⟨0, (parseI (c :: r)).1⟩ else ⟨5, 0⟩) := by
  unfold impl_ReadNumber impl_number impl_number_u1 impl_decimal strconv_ParseInt strconv_FormatInt
  rw [if_pos (show okParse (c :: r) 10 64 = true from decide_eq_true ⟨by omega, rfl, rfl⟩)]
  simp only [Option.bind_some]
  cases h2 : (parseI (c :: r)).2 with
  | false => simp
  | true =>
    have hb := parse_bound h2
    simp only [if_true, hb, true_and, Option.bind_some, beq_iff_eq]
    by_cases he : Lib.itoa (parseI (c :: r)).1 = c :: r
    · rw [if_pos he, trim_eq hp]
      simp only [Option.bind_some, he, true_and, decide_eq_true_eq]
      by_cases hl : (bodyOf c r).length ≤ 7
      · rw [if_pos (by omega), if_pos hl]
      · rw [if_neg (by omega), if_neg hl]
    · rw [if_neg he]
      simp [he]
theorem numbers {c : UInt8} {r : List UInt8} {v : Int} (h1 : 1 ≤ (bodyOf c r).length) (h7 : (bodyOf c r).length ≤ 7) (hd : (bodyOf c r).all isD = true) (hv : v = sgn (decide (c.toNat = 45)) (valD 0 (bodyOf c r))) : parseI (c :: r) = (v, true) := by
  have hu : Lib.parseUintB 64 (bodyOf c r) = .ok (valD 0 (bodyOf c r)) := by
    unfold Lib.parseUintB
    rw [if_neg (fun e => by rw [e] at h1; simp at h1)]
    exact parse_small _ 0 0 (by simp) (by omega) hd
  have hlt := valD_lt (bodyOf c r) 0 0 (by simp) hd
  have ht := ten7 (k := 0 + (bodyOf c r).length) (by omega)
  have hp : Lib.parseIntB 64 (c :: r) = .ok v := by
    by_cases h : c.toNat = 45
    · have h' := u8_45.1 h
      subst h'
      have hb : bodyOf 45 r = r := by unfold bodyOf; rw [if_pos h]
      rw [hb] at hu hlt ht hv
      rw [Lib.parseIntB_minus, hu]
      unfold Lib.signedC
      simp only
      rw [if_neg (by omega), hv]
      simp [sgn]
    · have hb : bodyOf c r = c :: r := by unfold bodyOf; rw [if_neg h]
      rw [hb] at hu hlt ht hv hd
      simp only [List.all_cons, Bool.and_eq_true, isD_iff] at hd
      rw [Lib.parseIntB_plain 64 c r (by omega) h, hu]
      unfold Lib.signlessC
      simp only
      rw [if_neg (by omega), hv]
      simp [sgn, h]
  unfold parseI
  rw [hp]
theorem spelled {c : UInt8} {r : List UInt8} {n : Int} (h : Lib.itoa n = c :: r) : 1 ≤ (bodyOf c r).length ∧ (bodyOf c r).all isD = true ∧ sgn (decide (c.toNat = 45)) (valD 0 (bodyOf c r)) = n := by
  have pos : ∀ u, 1 ≤ (Lib.decDigits u).length := fun u => by
    rw [Lib.decDigits]
    split <;> simp
  unfold Lib.itoa at h
  by_cases hn : n < 0
  · rw [if_pos hn] at h
    obtain ⟨rfl, rfl⟩ : 45 = c ∧ Lib.decDigits n.natAbs = r := by simpa using h
    have hb : bodyOf 45 (Lib.decDigits n.natAbs) = Lib.decDigits n.natAbs := by unfold bodyOf; rw [if_pos (show (45 : UInt8).toNat = 45 from rfl)]
    rw [hb, dec_val]
    refine ⟨pos _, dec_dig _, ?_⟩
    have : (decide ((45 : UInt8).toNat = 45)) = true := rfl
    rw [this]
    simp only [sgn, if_true]; omega
  · rw [if_neg hn] at h
    have hd := dec_dig n.toNat
    have hv := dec_val n.toNat
    rw [h] at hd hv
    have hc : ¬ c.toNat = 45 := by
      simp only [List.all_cons, Bool.and_eq_true, isD_iff] at hd
      omega
    have hb : bodyOf c r = c :: r := by unfold bodyOf; rw [if_neg hc]
    rw [hb, hv]
    refine ⟨by simp, hd, ?_⟩
    rw [decide_eq_false hc]
    simp only [sgn, Bool.false_eq_true, if_false]; omega
theorem number_eq {p : List UInt8} (hp : p.length ≤ 1048576) : spec_ReadNumber 64 p = impl_ReadNumber p ∧ ∃ r, impl_ReadNumber p = some r := by
  match p with
  | [] => exact ⟨rfl, _, rfl⟩
  | c :: r =>
    rw [spec_form hp, impl_form hp]
    refine ⟨?_, _, rfl⟩
    congr 1
    by_cases hs : 1 ≤ (bodyOf c r).length ∧ (bodyOf c r).length ≤ 7 ∧ (bodyOf c r).all isD = true ∧ Lib.itoa (sgn (decide (c.toNat = 45)) (valD 0 (bodyOf c r))) = c :: r
    · rw [if_pos hs]
      obtain ⟨h1, h7, hd, hi⟩ := hs
      rw [numbers h1 h7 hd rfl]
      rw [if_pos ⟨rfl, hi, h7⟩]
    · rw [if_neg hs, if_neg]
      rintro ⟨q1, q2, q3⟩
      obtain ⟨e1, e2, e3⟩ := spelled q2
      exact hs ⟨e1, q3, e2, by rw [e3]; exact q2⟩
--REST0
theorem pure (p : List UInt8) (hp : (p.length : Int) ≤ maxI) : laws_FnExactReadNumber 64 p = some true := by
  unfold laws_FnExactReadNumber
  by_cases h : (p.length : Int) > 1048576
  · rw [if_pos (decide_eq_true h)]
  · rw [if_neg (by simpa using h)]
    obtain ⟨e, r, hr⟩ := number_eq (p := p) (by omega)
    rw [e, hr]
    simp [laws_eqIntResult]
end FnExactReadNumber
end Go.Proofs.YtpioljlgmhehhaaDoor.Wm
