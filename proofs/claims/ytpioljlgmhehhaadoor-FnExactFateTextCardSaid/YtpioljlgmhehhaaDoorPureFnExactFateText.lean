/- What FnExactFateText comes to on plain values: true. -/
import Derived.Test.YtpioljlgmhehhaaDoorFnFnExactFateText
set_option linter.unusedSimpArgs false
set_option linter.unusedVariables false
set_option maxRecDepth 100000
namespace Go.Proofs.YtpioljlgmhehhaaDoor.Wm
open Go
namespace FnExactFateText
theorem impl_inRange_eq {a b c : Int} : impl_inRange a b c = decide (b ≤ a ∧ a ≤ c) := by
  simp only [impl_inRange, impl_inRange_u1, decide_eq_true_eq]
  by_cases h1 : b ≤ a <;> by_cases h2 : a ≤ c <;> simp [h1, h2]
def firstL : List Int → Int
  | [] => 0
  | x :: l => if x ≠ 0 then x else firstL l
theorem firstL_skip : ∀ {i : Nat} {l : List Int}, (∀ j x, j < i → l[j]? = some x → x = 0) → firstL l = firstL (l.drop i)
  | 0, l, h => by simp
  | i + 1, [], h => by simp
  | i + 1, x :: l, h => by
    have := h 0 x (by omega) rfl
    subst this
    simp only [firstL, ne_eq, not_true, if_false, List.drop_succ_cons]
    exact firstL_skip fun j x hj hx => h (j + 1) x (by omega) (by simpa using hx)
theorem impl_first_eq {l : List Int} (hl : (l.length : Int) ≤ maxI) : impl_first l = some (firstL l) := by
  unfold maxI at hl
  unfold impl_first
  obtain ⟨t, h1, h2⟩ := loop_rule (step := impl_first_s1 l (l.length : Int)) (fun i s => s = (i : Int) ∧ ∀ j x, j < i → l[j]? = some x → x = 0)
      (fun t => (t = .inl () ∧ firstL l = 0) ∨ (t = .inr (firstL l))) l.length (by
    rintro i s hi ⟨rfl, hj⟩
    simp only [impl_first_s1, decide_eq_true_eq]
    rcases Nat.lt_or_ge i l.length with h | h
    · obtain ⟨x, hx, hm⟩ := get_lt h
      rw [if_pos (by omega), getI_nat, hx, w64 (by omega)]
      simp only [Option.bind_some, bne_iff_ne, ne_eq]
      by_cases hp : x = 0
      · left
        rw [if_neg (by simp [hp])]
        refine ⟨h, _, rfl, by simp, fun j y hj' hy => ?_⟩
        rcases Nat.lt_or_ge j i with hji | hji
        · exact hj j y hji hy
        · obtain rfl : j = i := by omega
          rw [hx] at hy; obtain rfl := Option.some.inj hy; exact hp
      · right
        rw [if_pos hp]
        refine ⟨_, rfl, .inr ?_⟩
        rw [firstL_skip hj, List.drop_eq_getElem_cons h, firstL]
        have : l[i] = x := by rw [List.getElem?_eq_getElem h] at hx; exact Option.some.inj hx
        rw [this, if_pos hp]
    · right
      rw [if_neg (by omega)]
      refine ⟨_, rfl, .inl ⟨rfl, ?_⟩⟩
      rw [firstL_skip hj, List.drop_eq_nil_of_le h]; rfl) (s := 0) ⟨rfl, fun j x hj => by omega⟩
  rw [h1]
  rcases h2 with ⟨rfl, h⟩ | rfl
  · simp [h]
  · simp
theorem impl_codeIf_eq {b : Bool} {c : Int} : impl_codeIf b c = if b = true then c else 0 := rfl
theorem spec_l1In_eq {a b c : Int} : spec_l1In a b c = decide (b ≤ a ∧ a ≤ c) := by
  simp only [spec_l1In, spec_l1In_u1, decide_eq_true_eq]
  by_cases h1 : b ≤ a <;> by_cases h2 : a ≤ c <;> simp [h1, h2]
theorem fate_same {f : SFate} : impl_FateFault f = some (spec_FateFault f) := by
  obtain ⟨k, d, a, b⟩ := f
  have hf : ∀ a b : Int, impl_first [a, b] = some (firstL [a, b]) := fun a b => impl_first_eq (by simp [maxI])
  unfold impl_FateFault impl_FateFault_u1 impl_FateFault_u2 impl_FateFault_u3 spec_FateFault spec_FateFault_u1 spec_FateFault_u2
  simp only [hf, impl_codeIf_eq, impl_inRange_eq, spec_l1In_eq, Option.bind_some, firstL]
  by_cases h3 : k = 3
  · subst h3
    by_cases h5 : 0 ≤ d ∧ d ≤ 6 <;> by_cases h6 : 0 ≤ a ∧ a ≤ 1279 <;> by_cases h7 : 1 ≤ b ∧ b ≤ 65535 <;> simp [h5, h6, h7]
  · by_cases h0 : k = 0
    · subst h0
      by_cases h5 : 0 ≤ d ∧ d ≤ 6 <;> by_cases h6 : a = 0 <;> by_cases h7 : b = 0 <;> by_cases h8 : d = 0 <;> simp [h5, h6, h7, h8]
    · by_cases h1 : 0 ≤ k ∧ k ≤ 3 <;> by_cases h5 : 0 ≤ d ∧ d ≤ 6 <;> by_cases h6 : a = 0 <;> by_cases h7 : b = 0 <;> simp [h0, h1, h3, h5, h6, h7]
theorem fate_ok {f : SFate} (h : spec_FateFault f = 0) : (0 ≤ f.Kind ∧ f.Kind ≤ 3) ∧ (0 ≤ f.Delay ∧ f.Delay ≤ 6) ∧ (f.Kind = 3 → (0 ≤ f.At ∧ f.At ≤ 1279) ∧ 1 ≤ f.Bits ∧ f.Bits ≤ 65535) := by
  obtain ⟨k, d, a, b⟩ := f
  unfold spec_FateFault spec_FateFault_u1 spec_FateFault_u2 at h
  simp only [spec_l1In_eq] at h
  simp only
  by_cases h1 : 0 ≤ k ∧ k ≤ 3
  · by_cases h5 : 0 ≤ d ∧ d ≤ 6
    · refine ⟨h1, h5, fun h3 => ?_⟩
      subst h3
      by_cases h6 : 0 ≤ a ∧ a ≤ 1279 <;> by_cases h7 : 1 ≤ b ∧ b ≤ 65535 <;> simp [h5, h6, h7] at h
      exact ⟨h6, h7⟩
    · exfalso
      simp only [decide_eq_true h1, decide_eq_false h5, if_true] at h
      revert h
      simp only [Bool.false_eq_true, if_false, if_true]
      generalize (if (k == 0) = true then _ else _ : Bool × Bool) = q
      cases q.2 <;> simp
  · exfalso
    simp [h1] at h
theorem dec_len : ∀ u : Nat, (Lib.decDigits u).length ≤ u + 1 := by
  intro u
  induction u using Nat.strongRecOn with
  | ind u ih =>
    rw [Lib.decDigits]
    split
    · simp
    · rename_i h
      have := ih (u / 10) (by omega)
      simp only [List.length_append, List.length_cons, List.length_nil]; omega
theorem digits_eq : ∀ (k : Nat) (n : Nat), n < 10 ^ (k + 1) → n ≤ 1000000000 → spec_l1Digits (k + 1) (n : Int) = some (Lib.decDigits n)
  | k, n, h, hs => by
    rw [spec_l1Digits, Lib.decDigits]
    unfold spec_l1Digits_b spec_l1Digits_u1
    rw [if_neg (by simp)]
    by_cases h1 : n < 10
    · rw [if_pos (by simp; omega), dif_pos h1, w64 (by omega), wu8 (by omega), bytesI_eq]
      simp only [Option.bind_some, List.map_cons, List.map_nil]
      congr 3
    · rw [if_neg (by simp; omega), dif_neg h1]
      have e1 : IntKind.i64.wrap ((n : Int).tdiv 10) = ((n / 10 : Nat) : Int) := by rw [Int.tdiv_eq_ediv_of_nonneg (by omega), w64 (by omega)]; omega
      have e2 : (n : Int).tmod 10 = ((n % 10 : Nat) : Int) := by rw [Int.tmod_eq_emod_of_nonneg (by omega)]; omega
      have hl := dec_len (n / 10)
      obtain ⟨j, rfl⟩ : ∃ j, k = j + 1 := by
        cases k with
        | zero => exact absurd (by simpa using h) h1
        | succ j => exact ⟨j, rfl⟩
      rw [e1, e2, digits_eq j (n / 10) (by rw [Nat.pow_succ] at h; omega) (by omega), w64 (by omega), wu8 (by omega), bytesI_eq]
      simp only [Option.bind_some, List.map_cons, List.map_nil]
      rw [if_pos (by simp; omega)]
      congr 4
--REST0
theorem pure (s : SFate) (w : s.Wf) : laws_FnExactFateText 64 s = some true := by
  unfold laws_FnExactFateText laws_toFate
  have main : ∃ r, spec_FateText 64 s = some r ∧ impl_FateText s = some r := by
    unfold spec_FateText impl_FateText
    rw [fate_same]
    simp only [Option.bind_some]
    by_cases h : spec_FateFault s = 0
    · obtain ⟨k, d, a, b⟩ := s
      obtain ⟨h1, h2, h3⟩ := fate_ok h
      simp only at h1 h2 h3
      rw [h]
      simp only [bne_self_eq_false, Bool.false_eq_true, if_false]
      have dg : ∀ x : Int, 0 ≤ x ∧ x ≤ 65535 → spec_l1Digits 64 x = some (Lib.decDigits x.toNat) ∧ impl_decimal x = some (Lib.decDigits x.toNat) ∧ (Lib.decDigits x.toNat).length ≤ 65536 := fun x hx => by
        refine ⟨?_, ?_, ?_⟩
        · have := digits_eq 63 x.toNat (Nat.lt_of_le_of_lt (show x.toNat ≤ 65535 by omega) (by decide)) (by omega)
          rwa [Int.toNat_of_nonneg hx.1] at this
        · unfold impl_decimal strconv_FormatInt
          rw [if_pos ⟨decide_eq_true (by omega), rfl⟩]
          simp only [Option.bind_some]
          unfold Lib.itoa
          rw [if_neg (by omega)]
        · have := dec_len x.toNat; omega
      unfold spec_l22Fate impl_fateText impl_fateText_u1 impl_fateText_u4 impl_fateText_u2 impl_fateText_u3
      obtain ⟨d1, d2, d3⟩ := dg d (by omega)
      have hk : k = 0 ∨ k = 1 ∨ k = 2 ∨ k = 3 := by omega
      rcases hk with rfl | rfl | rfl | rfl
      · exact ⟨_, rfl, rfl⟩
      · simp only [d1, d2, Option.bind_some, beq_self_eq_true, if_true, Int.reduceBEq, Bool.false_eq_true, if_false]
        rw [if_pos (by simp; omega), if_pos (by simp; omega), if_pos (by simp; omega)]
        exact ⟨_, rfl, rfl⟩
      · simp only [d1, d2, Option.bind_some, beq_self_eq_true, if_true, Int.reduceBEq, Bool.false_eq_true, if_false]
        rw [if_pos (by simp; omega), if_pos (by simp; omega), if_pos (by simp; omega)]
        exact ⟨_, rfl, rfl⟩
      · obtain ⟨g1, g2⟩ := h3 rfl
        obtain ⟨a1, a2, a3⟩ := dg a (by omega)
        obtain ⟨b1, b2, b3⟩ := dg b (by omega)
        simp only [d1, d2, a1, a2, b1, b2, Option.bind_some, beq_self_eq_true, if_true, Int.reduceBEq, Bool.false_eq_true, if_false]
        repeat rw [if_pos (by simp; omega)]
        simp only [Option.bind_some]
        exact ⟨_, rfl, by simp⟩
    · have : (spec_FateFault s != 0) = true := by simp [h]
      rw [this]
      exact ⟨_, rfl, rfl⟩
  obtain ⟨r, e1, e2⟩ := main
  rw [e1, e2]
  simp [laws_eqTextResult]
end FnExactFateText
end Go.Proofs.YtpioljlgmhehhaaDoor.Wm
