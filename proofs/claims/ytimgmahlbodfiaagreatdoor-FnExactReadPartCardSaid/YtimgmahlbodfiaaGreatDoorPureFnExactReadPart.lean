/- What FnExactReadPart comes to on plain values: true. -/
import Derived.Test.YtimgmahlbodfiaaGreatDoorFnBFnExactReadPart
set_option linter.unusedSimpArgs false
set_option linter.unusedVariables false
set_option maxRecDepth 100000
namespace Go.Proofs.YtimgmahlbodfiaaGreatDoor.Wm
open Go
namespace FnExactReadPart
theorem spec_l1In_eq {a b c : Int} : spec_l1In a b c = decide (b ≤ a ∧ a ≤ c) := by
  simp only [spec_l1In, spec_l1In_u1, decide_eq_true_eq]
  by_cases h1 : b ≤ a <;> by_cases h2 : a ≤ c <;> simp [h1, h2]
theorem impl_inRange_eq {a b c : Int} : impl_inRange a b c = decide (b ≤ a ∧ a ≤ c) := by
  simp only [impl_inRange, impl_inRange_u1, decide_eq_true_eq]
  by_cases h1 : b ≤ a <;> by_cases h2 : a ≤ c <;> simp [h1, h2]
def firstL : List Int → Int
  | [] => 0
  | x :: l => if x ≠ 0 then x else firstL l
theorem firstL_skip : ∀ {i : Nat} {l : List Int}, (∀ j x, j < i → l[j]? = some x → x = 0) → firstL l = firstL (l.drop i)
  | 0, l, h => by simp
  | i + 1, [], h => by simp
  | i + 1, x :: l, h => by
    have := h 0 x (by omega) rfl
    subst this
    simp only [firstL, ne_eq, not_true, if_false, List.drop_succ_cons]
    exact firstL_skip fun j x hj hx => h (j + 1) x (by omega) (by simpa using hx)
theorem impl_first_eq {l : List Int} (hl : (l.length : Int) ≤ maxI) : impl_first l = some (firstL l) := by
  unfold maxI at hl
  unfold impl_first
  obtain ⟨t, h1, h2⟩ := loop_rule (step := impl_first_s1 l (l.length : Int)) (fun i s => s = (i : Int) ∧ ∀ j x, j < i → l[j]? = some x → x = 0)
      (fun t => (t = .inl () ∧ firstL l = 0) ∨ (t = .inr (firstL l))) l.length (by
    rintro i s hi ⟨rfl, hj⟩
    simp only [impl_first_s1, decide_eq_true_eq]
    rcases Nat.lt_or_ge i l.length with h | h
    · obtain ⟨x, hx, hm⟩ := get_lt h
      rw [if_pos (by omega), getI_nat, hx, w64 (by omega)]
      simp only [Option.bind_some, bne_iff_ne, ne_eq]
      by_cases hp : x = 0
      · left
        rw [if_neg (by simp [hp])]
        refine ⟨h, _, rfl, by simp, fun j y hj' hy => ?_⟩
        rcases Nat.lt_or_ge j i with hji | hji
        · exact hj j y hji hy
        · obtain rfl : j = i := by omega
          rw [hx] at hy; obtain rfl := Option.some.inj hy; exact hp
      · right
        rw [if_pos hp]
        refine ⟨_, rfl, .inr ?_⟩
        rw [firstL_skip hj, List.drop_eq_getElem_cons h, firstL]
        have : l[i] = x := by rw [List.getElem?_eq_getElem h] at hx; exact Option.some.inj hx
        rw [this, if_pos hp]
    · right
      rw [if_neg (by omega)]
      refine ⟨_, rfl, .inl ⟨rfl, ?_⟩⟩
      rw [firstL_skip hj, List.drop_eq_nil_of_le h]; rfl) (s := 0) ⟨rfl, fun j x hj => by omega⟩
  rw [h1]
  rcases h2 with ⟨rfl, h⟩ | rfl
  · simp [h]
  · simp
theorem impl_codeIf_eq {b : Bool} {c : Int} : impl_codeIf b c = if b = true then c else 0 := rfl
theorem loop_same {ς τ : Type} {step1 step2 : ς → Option (ς ⊕ τ)} (I : Nat → ς → Prop) (Q : τ → Prop) (n : Nat)
    (h : ∀ i s, i ≤ n → I i s → step1 s = step2 s ∧ ((i < n ∧ ∃ s', step2 s = some (.inl s') ∧ I (i + 1) s') ∨ ∃ t, step2 s = some (.inr t) ∧ Q t)) {s : ς} (h0 : I 0 s) : ∃ t, loopO step1 s = some t ∧ loopO step2 s = some t ∧ Q t := by
  have key : ∀ m i s, n - i = m → i ≤ n → I i s → ∃ t, loopO step1 s = some t ∧ loopO step2 s = some t ∧ Q t := by
    intro m
    induction m with
    | zero =>
      intro i s hm hi hI
      obtain ⟨e, h | ⟨t, h1, h2⟩⟩ := h i s hi hI
      · omega
      · exact ⟨t, by rw [loopO_eq, e, h1], by rw [loopO_eq, h1], h2⟩
    | succ m ih =>
      intro i s hm hi hI
      obtain ⟨e, ⟨h1, s', h2, h3⟩ | ⟨t, h1, h2⟩⟩ := h i s hi hI
      · obtain ⟨t, k1, k2, k3⟩ := ih (i + 1) s' (by omega) (by omega) h3
        exact ⟨t, by rw [loopO_eq, e, h2]; exact k1, by rw [loopO_eq, h2]; exact k2, k3⟩
      · exact ⟨t, by rw [loopO_eq, e, h1], by rw [loopO_eq, h1], h2⟩
  exact key (n - 0) 0 s rfl (Nat.zero_le _) h0
theorem spec_l1All_eq {l : List Int} {a b : Int} (hl : (l.length : Int) ≤ maxI) : spec_l1All l a b = some (decide (∀ x ∈ l, a ≤ x ∧ x ≤ b)) := by
  unfold maxI at hl
  unfold spec_l1All
  obtain ⟨t, h1, h2⟩ := loop_rule (step := spec_l1All_s1 l a b) (fun i s => s = (i : Int) ∧ ∀ j x, j < i → l[j]? = some x → a ≤ x ∧ x ≤ b)
      (fun t => (t = .inl () ∧ ∀ x ∈ l, a ≤ x ∧ x ≤ b) ∨ (t = .inr () ∧ ∃ x ∈ l, ¬ (a ≤ x ∧ x ≤ b))) l.length (by
    rintro i s hi ⟨rfl, hj⟩
    simp only [spec_l1All_s1, decide_eq_true_eq]
    rcases Nat.lt_or_ge i l.length with h | h
    · obtain ⟨x, hx, hm⟩ := get_lt h
      rw [if_pos (by omega), getI_nat, hx, w64 (by omega)]
      simp only [Option.bind_some, spec_l1In_eq, decide_eq_true_eq]
      by_cases hp : a ≤ x ∧ x ≤ b
      · left
        rw [if_pos hp]
        refine ⟨h, _, rfl, by simp, fun j y hj' hy => ?_⟩
        rcases Nat.lt_or_ge j i with hji | hji
        · exact hj j y hji hy
        · obtain rfl : j = i := by omega
          rw [hx] at hy; obtain rfl := Option.some.inj hy; exact hp
      · right
        rw [if_neg hp]
        exact ⟨_, rfl, .inr ⟨rfl, x, hm, hp⟩⟩
    · right
      rw [if_neg (by omega)]
      refine ⟨_, rfl, .inl ⟨rfl, fun x hx => ?_⟩⟩
      obtain ⟨j, hj'⟩ := List.getElem?_of_mem hx
      exact hj j x (by have := (List.getElem?_eq_some_iff.1 hj').1; omega) hj') (s := 0) ⟨rfl, fun j x hj => by omega⟩
  rw [h1]
  rcases h2 with ⟨rfl, h⟩ | ⟨rfl, x, hx, h⟩
  · simp only [Option.bind_some, Sum.elim_inl, Option.some.injEq]; exact (decide_eq_true h).symm
  · simp only [Option.bind_some, Sum.elim_inr, Option.some.injEq]; exact (decide_eq_false fun hh => h (hh x hx)).symm
theorem l1All_all {l : List Int} {a b : Int} (hl : (l.length : Int) ≤ maxI) : spec_l1All l a b = some (l.all fun x => decide (a ≤ x ∧ x ≤ b)) := by
  rw [spec_l1All_eq hl]
  congr 1
  rw [Bool.eq_iff_iff]
  simp
theorem allWithin_eq {l : List Int} {k : Int} (hk : 0 ≤ k ∧ k ≤ 1152921504606846976) (hl : (l.length : Int) ≤ maxI) : impl_allWithin l k = some (l.all fun x => decide (-k ≤ x ∧ x ≤ k)) := by
  unfold impl_allWithin slices_ContainsFunc_int64_impl_allWithin_1 slices_IndexFunc_int64_impl_allWithin_1
  obtain ⟨r, h1, h2⟩ := find_loop (l := l) (fun x => impl_allWithin_1 x k) (step := slices_IndexFunc_int64_impl_allWithin_1_s1 l k (l.length : Int)) (fun i x hx => by
      have hi : i < l.length := (List.getElem?_eq_some_iff.1 hx).1
      simp only [slices_IndexFunc_int64_impl_allWithin_1_s1, decide_eq_true_eq]
      rw [if_pos (by omega), getI_nat, hx]
      simp only [Option.bind_some]
      split <;> rfl) (by
      simp only [slices_IndexFunc_int64_impl_allWithin_1_s1, decide_eq_true_eq]
      rw [if_neg (by omega)]) hl
  rw [h1]
  simp only [Option.bind_some, h2, List.not_any_eq_all_not]
  congr 2
  funext x
  simp only [impl_allWithin_1, impl_within, impl_inRange_eq, Bool.not_not]
  rw [w64 (by omega)]
  simp
theorem size_same {n : Int} : impl_SizeFault n = spec_SizeFault n := rfl
theorem size_cases {n : Int} : spec_SizeFault n = 0 ∨ spec_SizeFault n = 3 := by
  unfold spec_SizeFault
  simp only []
  split
  · exact .inr rfl
  · exact .inl rfl
theorem anchorGains_eq {l : List Int} (hl : (l.length : Int) ≤ maxI) : slices_ContainsFunc_int64_impl_AnchorFault_1 l = some (!l.all fun x => decide (0 ≤ x ∧ x ≤ 65535)) := by
  unfold slices_ContainsFunc_int64_impl_AnchorFault_1 slices_IndexFunc_int64_impl_AnchorFault_1
  obtain ⟨r, h1, h2⟩ := find_loop (l := l) (fun x => impl_AnchorFault_1 x) (step := slices_IndexFunc_int64_impl_AnchorFault_1_s1 l (l.length : Int)) (fun i x hx => by
      have hi : i < l.length := (List.getElem?_eq_some_iff.1 hx).1
      simp only [slices_IndexFunc_int64_impl_AnchorFault_1_s1, decide_eq_true_eq]
      rw [if_pos (by omega), getI_nat, hx]
      simp only [Option.bind_some]
      split <;> rfl) (by
      simp only [slices_IndexFunc_int64_impl_AnchorFault_1_s1, decide_eq_true_eq]
      rw [if_neg (by omega)]) hl
  rw [h1]
  simp only [Option.bind_some, h2, List.not_all_eq_any_not]
  congr 2
  funext x
  simp only [impl_AnchorFault_1, impl_inRange_eq]
theorem anchor_same {s : SAnchor} (h1 : (s.Gains.length : Int) ≤ maxI) : ∃ c, spec_AnchorFault s = some c ∧ impl_AnchorFault s = some c := by
  unfold spec_AnchorFault impl_AnchorFault
  have ha : ∀ a b c : Int, impl_first [a, b, c] = some (firstL [a, b, c]) := fun a b c => impl_first_eq (by simp [maxI])
  have hb : ((if decide ((s.Gains.length : Int) < 1) = true then true else decide ((s.Gains.length : Int) > 2)) : Bool) = !decide (1 ≤ (s.Gains.length : Int) ∧ (s.Gains.length : Int) ≤ 2) := by
    by_cases q1 : (s.Gains.length : Int) < 1
    · rw [if_pos (decide_eq_true q1), decide_eq_false (by omega)]; rfl
    · rw [if_neg (by simpa using q1)]
      by_cases q2 : (s.Gains.length : Int) > 2
      · rw [decide_eq_true q2, decide_eq_false (by omega)]; rfl
      · rw [decide_eq_false q2, decide_eq_true (by omega)]; rfl
  simp only [spec_AnchorFault_u1, spec_AnchorFault_u2, spec_AnchorFault_u3, impl_AnchorFault_u1, impl_AnchorFault_u2, anchorGains_eq h1, l1All_all h1, impl_isNumber, impl_isRung, spec_l14Number, spec_l9Rung, spec_l1In_eq, impl_inRange_eq, impl_codeIf_eq, Option.bind_some, hb, ha]
  generalize (s.Gains.all fun x => decide (0 ≤ x ∧ x ≤ 65535)) = A
  generalize decide (1 ≤ (s.Gains.length : Int) ∧ (s.Gains.length : Int) ≤ 2) = b1
  generalize decide (0 ≤ s.Number ∧ s.Number ≤ 9999) = b2
  generalize decide (0 ≤ s.Rung ∧ s.Rung ≤ 47) = b3
  cases s.Known
  · by_cases b4 : 0 < s.Gains.length <;> by_cases b5 : s.Number = 0 <;> by_cases b6 : s.Rung = 0 <;> simp [b4, b5, b6]
  · cases A <;> cases b1 <;> cases b2 <;> cases b3 <;> exact ⟨_, rfl, rfl⟩
theorem and_mask {w : Nat} {a : Int} {m : Nat} (h0 : 0 ≤ a) (h1 : a < 2 ^ w) (hm : m ≤ w) (hw : 0 < w) : (BitVec.ofInt w a &&& BitVec.ofInt w (2 ^ m - 1)).toNat = a.toNat % 2 ^ m := by
  obtain ⟨n, rfl⟩ : ∃ n : Nat, a = n := ⟨a.toNat, by omega⟩
  have hn : n < 2 ^ w := by exact_mod_cast h1
  have hm2 : (2 : Nat) ^ m - 1 < 2 ^ w := by
    have := Nat.pow_le_pow_right (n := 2) (by omega) hm
    have := Nat.two_pow_pos m
    omega
  have e : ((2 : Int) ^ m - 1) = ((2 ^ m - 1 : Nat) : Int) := by
    have := Nat.two_pow_pos m
    rw [Int.natCast_sub (by omega)]; simp
  rw [e, BitVec.toNat_and]
  simp only [BitVec.ofInt_natCast, BitVec.toNat_ofNat, Int.toNat_natCast]
  rw [Nat.mod_eq_of_lt hn, Nat.mod_eq_of_lt hm2, Nat.and_two_pow_sub_one_eq_mod]
theorem and_one {w : Nat} {a : Int} (h0 : 0 ≤ a) (h1 : a < 2 ^ w) (hw : 0 < w) : (BitVec.ofInt w a &&& BitVec.ofInt w 1).toNat = a.toNat % 2 := by
  have := and_mask (m := 1) h0 h1 (by omega) hw
  simpa using this
theorem xor_lt {a b : Int} (h0 : 0 ≤ a ∧ a < 65536) (h1 : 0 ≤ b ∧ b < 65536) : (BitVec.ofInt IntKind.i64.bits a ^^^ BitVec.ofInt IntKind.i64.bits b).toNat < 65536 := by
  obtain ⟨n, rfl⟩ : ∃ n : Nat, a = n := ⟨a.toNat, by omega⟩
  obtain ⟨m, rfl⟩ : ∃ m : Nat, b = m := ⟨b.toNat, by omega⟩
  rw [BitVec.toNat_xor]
  simp only [BitVec.ofInt_natCast, BitVec.toNat_ofNat, IntKind.bits]
  rw [Nat.mod_eq_of_lt (by omega), Nat.mod_eq_of_lt (by omega)]
  exact Nat.xor_lt_two_pow (n := 16) (by omega) (by omega)
theorem fdiv_pow {a : Int} {k : Nat} (h : 0 ≤ a) : a.fdiv (2 ^ k) = ((a.toNat / 2 ^ k : Nat) : Int) := by
  obtain ⟨n, rfl⟩ : ∃ n : Nat, a = n := ⟨a.toNat, by omega⟩
  rw [Int.fdiv_eq_ediv_of_nonneg _ (by exact_mod_cast Nat.zero_le _)]
  simp only [Int.toNat_natCast]
  exact_mod_cast rfl
def DecOk (d : SDecoder) : Prop := d.Data.length ≤ 600 ∧ (0 ≤ d.At ∧ d.At ≤ 10000) ∧ (65536 ≤ d.Range ∧ d.Range ≤ 16777216) ∧ (0 ≤ d.Rest ∧ d.Rest ≤ d.Range - 1)
def SlotOk (s : SSlot) : Prop := (1 ≤ s.Total ∧ s.Total ≤ 1024) ∧ (1 ≤ s.Size ∧ s.Size ≤ s.Total) ∧ 0 ≤ s.Low ∧ s.Low ≤ s.Total - s.Size
theorem unit_ge {r t : Int} (hr : 65536 ≤ r) (ht : 1 ≤ t ∧ t ≤ 1024) : 64 ≤ r / t ∧ r / t ≤ r := ⟨Int.le_ediv_of_mul_le (by omega) (by omega), Int.ediv_le_self _ (by omega)⟩
def valI (d : SDecoder) (t : Int) : Int := if d.Rest / (d.Range / t) < t - 1 then d.Rest / (d.Range / t) else t - 1
theorem value_same {d : SDecoder} (h : DecOk d) {t : Int} (ht : 1 ≤ t ∧ t ≤ 1024) : spec_l3Value d t = some (valI d t) ∧ impl_Decoder_value d t = some (valI d t) ∧ 0 ≤ valI d t ∧ valI d t < t := by
  obtain ⟨_, _, h3, h4⟩ := h
  obtain ⟨u1, u2⟩ := unit_ge h3.1 ht
  unfold spec_l3Value impl_Decoder_value valI
  rw [Int.tdiv_eq_ediv_of_nonneg (by omega)]
  generalize d.Range / t = u at *
  have n1 : ¬ t = 0 := by omega
  have n2 : ¬ u = 0 := by omega
  rw [w64 (n := u) (by omega)]
  simp only [n1, n2, if_false]
  rw [Int.tdiv_eq_ediv_of_nonneg h4.1]
  have e1 : 0 ≤ d.Rest / u := Int.ediv_nonneg h4.1 (by omega)
  have e2 : d.Rest / u ≤ d.Rest := Int.ediv_le_self _ h4.1
  generalize d.Rest / u = v at *
  rw [w64 (n := v) (by omega), w64 (n := t - 1) (by omega)]
  simp only [spec_l1Min, mnI, decide_eq_true_eq]
  by_cases c : v < t - 1
  · simp only [c, if_true]; rw [if_neg (by omega)]; exact ⟨trivial, rfl, by omega, by omega⟩
  · simp only [c, if_false]
    refine ⟨trivial, ?_, by omega, by omega⟩
    split
    · rfl
    · congr 1; omega
def widthI (r : Int) (s : SSlot) : Int := if s.Low + s.Size = s.Total then r - r / s.Total * s.Low else r / s.Total * s.Size
theorem unit_mul {r : Int} {s : SSlot} (hr : 65536 ≤ r) (hs : SlotOk s) : r / s.Total * s.Low + r / s.Total * s.Size = r / s.Total * (s.Low + s.Size) ∧ r / s.Total * (s.Low + s.Size) ≤ r ∧ 0 ≤ r / s.Total * s.Low ∧ 64 ≤ r / s.Total * s.Size := by
  obtain ⟨h1, h2, h3, h4⟩ := hs
  obtain ⟨u1, u2⟩ := unit_ge hr h1
  have e := Int.ediv_mul_le r (show s.Total ≠ 0 by omega)
  have a := Int.mul_le_mul_of_nonneg_left (show s.Low + s.Size ≤ s.Total by omega) (show 0 ≤ r / s.Total by omega)
  have b := Int.mul_nonneg (show 0 ≤ r / s.Total by omega) h3
  have c := Int.mul_le_mul u1 h2.1 (by omega) (show 0 ≤ r / s.Total by omega)
  exact ⟨(Int.mul_add _ _ _).symm, by omega, b, by omega⟩
theorem narrow_same {r : Int} {s : SSlot} (hr : 65536 ≤ r ∧ r ≤ 16777216) (hs : SlotOk s) : spec_l3Narrow r s = some (widthI r s) ∧ impl_narrowed r s = some (r / s.Total * s.Low, widthI r s) ∧ IntKind.i64.wrap ((IntKind.i64.wrap (r.tdiv s.Total)) * s.Low) = r / s.Total * s.Low ∧ 64 ≤ widthI r s ∧ widthI r s ≤ 16777216 := by
  obtain ⟨m1, m2, m3, m4⟩ := unit_mul hr.1 hs
  obtain ⟨h1, h2, h3, h4⟩ := hs
  obtain ⟨u1, u2⟩ := unit_ge hr.1 h1
  unfold spec_l3Narrow impl_narrowed widthI
  rw [Int.tdiv_eq_ediv_of_nonneg (by omega), w64 (n := r / s.Total) (by omega), w64 (n := r / s.Total * s.Low) (by omega), w64 (n := r / s.Total * s.Size) (by omega), w64 (n := r - r / s.Total * s.Low) (by omega), w64 (n := s.Low + s.Size) (by omega)]
  have n1 : ¬ s.Total = 0 := by omega
  simp only [beq_iff_eq, n1, if_false]
  by_cases c : s.Low + s.Size = s.Total
  · simp only [c, if_true, true_and]
    rw [c] at m1 m2
    omega
  · simp only [c, if_false, true_and]
    omega
def byteAt (l : List Int) (a : Int) : Int := (l[a.toNat]?).getD 0
theorem byteAt_ok {l : List Int} {a : Int} (hb : ∀ x ∈ l, 0 ≤ x ∧ x ≤ 255) : 0 ≤ byteAt l a ∧ byteAt l a ≤ 255 := by
  unfold byteAt
  rcases Nat.lt_or_ge a.toNat l.length with h | h
  · obtain ⟨x, hx, hm⟩ := get_lt h
    rw [hx]; exact hb x hm
  · rw [List.getElem?_eq_none h]; simp
theorem byte_spec {l : List Int} {a : Int} (hb : ∀ x ∈ l, 0 ≤ x ∧ x ≤ 255) (h0 : 0 ≤ a) : spec_l3Byte l a = some (byteAt l a) := by
  unfold spec_l3Byte byteAt
  simp only [decide_eq_true_eq]
  obtain ⟨n, rfl⟩ : ∃ n : Nat, a = n := ⟨a.toNat, by omega⟩
  rcases Nat.lt_or_ge n l.length with h | h
  · obtain ⟨x, hx, hm⟩ := get_lt h
    have := hb x hm
    rw [if_pos (by omega), getI_nat, Int.toNat_natCast, hx]
    simp only [Option.bind_some, Option.getD_some]
    rw [w64 (by omega)]
  · rw [if_neg (by omega), Int.toNat_natCast, List.getElem?_eq_none h]; rfl
theorem next_impl {d : SDecoder} (hb : ∀ x ∈ d.Data, 0 ≤ x ∧ x ≤ 255) (h0 : 0 ≤ d.At ∧ d.At ≤ 1000000) : impl_Decoder_next_o d = some (byteAt d.Data d.At, d.Data, d.At + 1) := by
  unfold impl_Decoder_next_o byteAt
  simp only [decide_eq_true_eq]
  have e1 : IntKind.i64.wrap (d.At + 1) = d.At + 1 := w64 (by omega)
  have e2 : IntKind.i64.wrap (d.At + 1 - 1) = d.At := by rw [w64 (by omega)]; omega
  rw [e1, e2]
  generalize d.At = a at *
  obtain ⟨n, rfl⟩ : ∃ n : Nat, a = n := ⟨a.toNat, by omega⟩
  rcases Nat.lt_or_ge n d.Data.length with h | h
  · obtain ⟨x, hx, hm⟩ := get_lt h
    have := hb x hm
    rw [if_neg (by omega), getI_nat, Int.toNat_natCast, hx]
    simp only [Option.bind_some, Option.getD_some]
    rw [w64 (by omega)]
  · rw [if_pos (by omega), Int.toNat_natCast, List.getElem?_eq_none h]; rfl
theorem turn_same {l : List Int} (hb : ∀ x ∈ l, 0 ≤ x ∧ x ≤ 255) : ∀ (m : Nat) (a r w : Int), 65536 ≤ w * 256 ^ m → 0 < w → w ≤ 16777216 → 0 ≤ r → r ≤ w - 1 → 0 ≤ a → a + m ≤ 100000 →
    ∃ a' r' w', loopO (spec_l3Take_o_s1 l) (a, r, w) = some (a', r', w') ∧ loopO impl_Decoder_take_o_s2 (l, a, r, w) = some (l, a', r', w') ∧ a ≤ a' ∧ a' ≤ a + m ∧ (65536 ≤ w' ∧ w' ≤ 16777216) ∧ 0 ≤ r' ∧ r' ≤ w' - 1 := by
  intro m
  induction m with
  | zero =>
    intro a r w h1 h2 h3 h4 h5 h6 h7
    have h1' : 65536 ≤ w := by simpa using h1
    refine ⟨a, r, w, ?_, ?_, by omega, by omega, by omega, by omega⟩
    · rw [loopO_eq, spec_l3Take_o_s1]; simp only [decide_eq_true_eq]; rw [if_neg (by omega)]
    · rw [loopO_eq, impl_Decoder_take_o_s2]; simp only [decide_eq_true_eq]; rw [if_neg (by omega)]
  | succ m ih =>
    intro a r w h1 h2 h3 h4 h5 h6 h7
    by_cases hw : w < 65536
    · obtain ⟨b0, b1⟩ := byteAt_ok (l := l) (a := a) hb
      obtain ⟨a', r', w', q1, q2, q3, q4, q5, q6⟩ := ih (a + 1) (r * 256 + byteAt l a) (w * 256) (by rw [Int.pow_succ, Int.mul_comm (256 ^ m) 256, ← Int.mul_assoc] at h1; exact h1) (by omega) (by omega) (by omega) (by omega) (by omega) (by omega)
      refine ⟨a', r', w', ?_, ?_, by omega, by omega, q5, q6⟩
      · rw [loopO_eq, spec_l3Take_o_s1]
        simp only [decide_eq_true_eq]
        rw [if_pos hw, byte_spec hb h6, w64 (n := a + 1) (by omega), w64 (n := r * 256) (by omega), w64 (n := w * 256) (by omega)]
        simp only [Option.bind_some]
        rw [w64 (by omega)]
        exact q1
      · rw [loopO_eq, impl_Decoder_take_o_s2]
        simp only [decide_eq_true_eq, impl_Decoder_take_o_u1]
        rw [if_pos hw, next_impl (d := ⟨l, a, r, w⟩) hb (by simp only []; omega), w64 (n := r * 256) (by omega), w64 (n := w * 256) (by omega)]
        simp only [Option.bind_some]
        rw [w64 (by omega)]
        exact q2
    · refine ⟨a, r, w, ?_, ?_, by omega, by omega, by omega, by omega⟩
      · rw [loopO_eq, spec_l3Take_o_s1]; simp only [decide_eq_true_eq]; rw [if_neg (by omega)]
      · rw [loopO_eq, impl_Decoder_take_o_s2]; simp only [decide_eq_true_eq]; rw [if_neg (by omega)]
theorem take_same {d : SDecoder} {s : SSlot} (hd : DecOk d) (hb : ∀ x ∈ d.Data, 0 ≤ x ∧ x ≤ 255) (hs : SlotOk s) (hv : s.Low ≤ valI d s.Total ∧ valI d s.Total ≤ s.Low + s.Size - 1) :
    ∃ a r w, spec_l3Take_o d s = some (d.Data, a, r, w) ∧ impl_Decoder_take_o d s = some (d.Data, a, r, w) ∧ d.At ≤ a ∧ a ≤ d.At + 2 ∧ (65536 ≤ w ∧ w ≤ 16777216) ∧ 0 ≤ r ∧ r ≤ w - 1 := by
  obtain ⟨d1, d2, d3, d4⟩ := hd
  obtain ⟨n1, n2, n3, n4, n5⟩ := narrow_same d3 hs
  obtain ⟨m1, m2, m3, m4⟩ := unit_mul d3.1 hs
  obtain ⟨h1, h2, h3, h4⟩ := hs
  obtain ⟨u1, u2⟩ := unit_ge d3.1 h1
  have lo : d.Range / s.Total * s.Low ≤ d.Rest := by
    have q : s.Low ≤ d.Rest / (d.Range / s.Total) := by unfold valI at hv; split at hv <;> omega
    have := Int.mul_le_of_le_ediv (by omega) q
    rw [Int.mul_comm]; exact this
  have hi : d.Rest - d.Range / s.Total * s.Low ≤ widthI d.Range s - 1 := by
    unfold widthI
    split
    · omega
    · rename_i c
      have q : d.Rest / (d.Range / s.Total) < s.Low + s.Size := by unfold valI at hv; split at hv <;> omega
      have := Int.lt_mul_of_ediv_lt (by omega) q
      rw [Int.mul_comm] at this
      omega
  obtain ⟨a, r, w, q1, q2, q3, q4, q5, q6⟩ := turn_same hb 2 d.At (d.Rest - d.Range / s.Total * s.Low) (widthI d.Range s) (by simp only [Int.reducePow]; omega) (by omega) n5 (by omega) hi d2.1 (by omega)
  have hw : IntKind.i64.wrap (d.Rest - d.Range / s.Total * s.Low) = d.Rest - d.Range / s.Total * s.Low := w64 (by omega)
  refine ⟨a, r, w, ?_, ?_, q3, by omega, q5, q6⟩
  · unfold spec_l3Take_o
    rw [if_neg (by omega), n1, n3, hw]
    simp only [Option.bind_some, q1]
  · unfold impl_Decoder_take_o
    rw [n2]
    simp only [Option.bind_some]
    rw [hw, q2]; rfl
theorem eq_any {l m : List Int} {step : Int → Option (Int ⊕ (Unit ⊕ Unit))} (h1 : ∀ (i : Nat) (x y : Int), l[i]? = some x → m[i]? = some y → step i = some (if (x == y) = true then .inl (IntKind.i64.wrap ((i : Int) + 1)) else .inr (.inr ())))
    (h2 : step (l.length : Int) = some (.inr (.inl ()))) (hl : (l.length : Int) ≤ maxI) :
    (if ((l.length : Int) != (m.length : Int)) = true then some false else (loopO step 0).bind fun t => (Sum.elim (fun _ => some true) (fun _ => some false)) t) = some (decide (l = m)) := by
  by_cases hlen : l.length = m.length
  · rw [if_neg (by simp [hlen]), same_loop (fun x y => x == y) hlen h1 h2 hl, allSame_eq hlen]
  · rw [if_pos (by simp; omega), decide_eq_false (fun e => hlen (by rw [e]))]
theorem laws_heldInt64S_eq {l : List Int} {k : Int} (hk : 0 ≤ k) (hs : k + l.length ≤ maxI) (h : ∀ (j : Nat), j < l.length → l[j]? = some (k + j)) : laws_heldInt64S l k = some (k + l.length) := by
  unfold maxI at hs
  unfold laws_heldInt64S
  obtain ⟨t, h1, rfl⟩ := loop_rule (step := laws_heldInt64S_s1 l) (fun i s => s = (k + (i : Int), (i : Int))) (fun t => t = .inl (k + (l.length : Int))) l.length (by
    rintro i s hi rfl
    simp only [laws_heldInt64S_s1, decide_eq_true_eq]
    rcases Nat.lt_or_ge i l.length with hh | hh
    · left
      rw [if_pos (by omega), getI_nat, h i hh, w64 (by omega), w64 (by omega)]
      simp only [Option.bind_some, bne_self_eq_false, Bool.false_eq_true, if_false]
      exact ⟨hh, _, rfl, by simp only [Prod.mk.injEq]; omega⟩
    · right
      obtain rfl : i = l.length := by omega
      rw [if_neg (by omega)]
      exact ⟨_, rfl, rfl⟩) (s := (k, 0)) (by simp)
  rw [h1]; rfl
theorem laws_markInt64S_eq {l : List Int} {k : Int} (hk : 0 ≤ k) (hs : k + l.length ≤ maxI) : ∃ l', laws_markInt64S l k = some (k + l.length, l') ∧ l'.length = l.length ∧ laws_heldInt64S l' k = some (k + l.length) := by
  have hs' := hs
  unfold maxI at hs
  unfold laws_markInt64S
  obtain ⟨t, h1, h2, h3, h4⟩ := loop_rule (step := laws_markInt64S_s1) (fun i s => s.2.1 = k + (i : Int) ∧ s.2.2 = (i : Int) ∧ s.1.length = l.length ∧ ∀ (j : Nat), j < i → s.1[j]? = some (k + j)) (fun t => t.2 = k + (l.length : Int) ∧ t.1.length = l.length ∧ ∀ (j : Nat), j < l.length → t.1[j]? = some (k + j)) l.length (by
    rintro i ⟨a, m, n⟩ hi ⟨hm, hn, ha, hj⟩
    simp only at hm hn ha hj
    subst hm; subst hn
    simp only [laws_markInt64S_s1, decide_eq_true_eq]
    rcases Nat.lt_or_ge i l.length with hh | hh
    · left
      obtain ⟨y, hy, _⟩ := get_lt (l := a) (i := i) (by omega)
      rw [if_pos (by omega), getI_nat, hy, Int.toNat_natCast, hy, w64 (by omega), w64 (by omega)]
      refine ⟨hh, _, rfl, by simp; omega, by simp, by simp [ha], fun j hj' => ?_⟩
      simp only [List.getElem?_set]
      split
      · rename_i e; subst e; rw [if_pos (by omega)]
      · exact hj j (by omega)
    · right
      obtain rfl : i = l.length := by omega
      rw [if_neg (by omega)]
      exact ⟨_, rfl, rfl, ha, hj⟩) (s := (l, k, 0)) ⟨by simp, rfl, rfl, fun j hj => by omega⟩
  rw [h1]
  obtain ⟨a, b⟩ := t
  simp only at h2 h3 h4
  subst h2
  refine ⟨a, rfl, h3, ?_⟩
  have := laws_heldInt64S_eq (l := a) hk (by rw [h3]; exact hs') (by rw [h3]; exact h4)
  rw [h3] at this
  exact this
theorem start_same {l : List Int} (hb : ∀ x ∈ l, 0 ≤ x ∧ x ≤ 255) (hl : l.length ≤ 600) : impl_start l = spec_l3Start l := by
  unfold impl_start spec_l3Start
  have cp : spec_l1Copy l = some l := by unfold spec_l1Copy; rw [if_pos (okApp_of (by omega))]
  have cl : slices_Clone_byte l = some l := by unfold slices_Clone_byte; rw [if_pos (okApp_of (by omega))]
  obtain ⟨a0, a1⟩ := byteAt_ok (l := l) (a := 0) hb
  obtain ⟨b0, b1⟩ := byteAt_ok (l := l) (a := 1) hb
  obtain ⟨c0, c1⟩ := byteAt_ok (l := l) (a := 2) hb
  have st : ∀ (a r k : Int), 0 ≤ a → a ≤ 10 → 0 ≤ r → r ≤ 65536 → 0 ≤ k → k < 3 → impl_start_s3 (a, r, l, k) = some (.inl (a + 1, r * 256 + byteAt l a, l, k + 1)) := fun a r k h1 h2 h3 h4 h5 h6 => by
    obtain ⟨q0, q1⟩ := byteAt_ok (l := l) (a := a) hb
    simp only [impl_start_s3, decide_eq_true_eq]
    rw [if_pos h6]
    unfold impl_start_u2
    rw [next_impl (d := ⟨l, a, r, 16777216⟩) hb (by simp only []; omega)]
    simp only [Option.bind_some]
    rw [w64 (n := r * 256) (by omega), w64 (n := r * 256 + byteAt l a) (by omega), w64 (by omega)]
  have fin : ∀ (a r : Int), impl_start_s3 (a, r, l, 3) = some (.inr (a, r, l)) := fun a r => by
    simp only [impl_start_s3]; rw [if_neg (by decide)]
  simp only [byte_spec hb (show (0 : Int) ≤ 0 by omega), byte_spec hb (show (0 : Int) ≤ 1 by omega), byte_spec hb (show (0 : Int) ≤ 2 by omega), cp, cl, Option.bind_some]
  rw [loopO_eq, st 0 0 0 (by omega) (by omega) (by omega) (by omega) (by omega) (by omega)]
  simp only []
  rw [loopO_eq, st _ _ _ (by omega) (by omega) (by omega) (by omega) (by omega) (by omega)]
  simp only []
  rw [loopO_eq, st _ _ _ (by omega) (by omega) (by simp only [Int.zero_add]; omega) (by simp only [Int.zero_add]; omega) (by omega) (by omega)]
  simp only [Int.zero_add, Int.reduceAdd, Int.zero_mul]
  rw [loopO_eq, fin]
  simp only [Option.bind_some]
  rw [w64 (n := byteAt l 0 * 65536) (by omega), w64 (n := byteAt l 1 * 256) (by omega), w64 (n := byteAt l 0 * 65536 + byteAt l 1 * 256) (by omega), w64 (by omega)]
  congr 2
  omega
def shareI (c : Int) : Int := if c = 0 then 96 else if c = 1 then 48 else if c = 2 then 40 else if c = 3 then 24 else if c = 4 then 16 else if c = 5 then 8 else 2
theorem share_spec {c : Int} : spec_l4Share c = shareI c := by
  unfold spec_l4Share shareI spec_l4Share_u1
  simp only [beq_iff_eq]
  by_cases h0 : c = 0
  · simp [h0]
  · by_cases h1 : c = 1
    · simp [h1]
    · by_cases h2 : c = 2
      · simp [h2]
      · by_cases h3 : c = 3
        · simp [h3]
        · by_cases h4 : c = 4
          · simp [h4]
          · by_cases h5 : c = 5
            · simp [h5]
            · simp [h0, h1, h2, h3, h4, h5]
theorem size_impl {c : Int} (h : 0 ≤ c) : impl_classSize c = some (shareI c) := by
  unfold impl_classSize impl_classSize_u1 shareI
  simp only [decide_eq_true_eq]
  by_cases h6 : c < 6
  · rw [if_pos h6]
    obtain ⟨n, rfl⟩ : ∃ n : Nat, c = n := ⟨c.toNat, by omega⟩
    have : n = 0 ∨ n = 1 ∨ n = 2 ∨ n = 3 ∨ n = 4 ∨ n = 5 := by omega
    rcases this with rfl | rfl | rfl | rfl | rfl | rfl <;> simp
  · rw [if_neg h6]
    have : ¬ c = 0 ∧ ¬ c = 1 ∧ ¬ c = 2 ∧ ¬ c = 3 ∧ ¬ c = 4 ∧ ¬ c = 5 := by omega
    simp [this]
def lowI : Nat → Int
  | 0 => 0
  | n + 1 => lowI n + shareI n
theorem class_same {n : Nat} (h : n ≤ 20) : spec_l4Class n = some ⟨lowI n, shareI n, 256⟩ ∧ impl_classSlot n = some ⟨lowI n, shareI n, 256⟩ := by
  unfold spec_l4Class impl_classSlot
  have bd : ∀ i : Nat, i ≤ 20 → 0 ≤ lowI i ∧ lowI i + shareI i ≤ 1000 := by
    intro i hi
    have : ∀ i : Fin 21, 0 ≤ lowI i.val ∧ lowI i.val + shareI i.val ≤ 1000 := by decide +kernel
    exact this ⟨i, by omega⟩
  rw [size_impl (by omega), share_spec]
  simp only [Option.bind_some]
  obtain ⟨t, h1, h2, h3⟩ := loop_same (step1 := impl_classSlot_s1 (shareI n) (n : Int)) (step2 := spec_l4Class_s1 (n : Int)) (fun i s => s = (lowI i, (i : Int))) (fun t => t = lowI n) n (by
    rintro i s hi rfl
    simp only [impl_classSlot_s1, spec_l4Class_s1, decide_eq_true_eq, share_spec]
    have hb := bd i (by omega)
    rcases Nat.lt_or_ge i n with hh | hh
    · have hs : 0 ≤ shareI (i : Int) := by unfold shareI; repeat' split
                                           all_goals omega
      rw [if_pos (by omega), if_pos (by omega), size_impl (by omega), w64 (n := (i : Int) + 1) (by omega)]
      simp only [Option.bind_some]
      rw [w64 (n := lowI i + shareI i) (by omega)]
      exact ⟨by trivial, .inl ⟨hh, _, rfl, by simp [lowI]⟩⟩
    · obtain rfl : i = n := by omega
      rw [if_neg (by omega), if_neg (by omega)]
      exact ⟨by trivial, .inr ⟨_, rfl, rfl⟩⟩) (s := (0, 0)) rfl
  rw [h1, h2, h3]
  exact ⟨rfl, rfl⟩
theorem low_ok {n : Nat} (h : n ≤ 17) : SlotOk ⟨lowI n, shareI n, 256⟩ := by
  have : ∀ i : Fin 18, 1 ≤ shareI i.val ∧ 0 ≤ lowI i.val ∧ lowI i.val + shareI i.val ≤ 256 := by decide +kernel
  have : 1 ≤ shareI n ∧ 0 ≤ lowI n ∧ lowI n + shareI n ≤ 256 := this ⟨n, by omega⟩
  exact ⟨by simp only []; omega, by simp only []; omega, by simp only []; omega, by simp only []; omega⟩
theorem low_end : lowI 17 + shareI (17 : Nat) = 256 := by decide +kernel
def lg (n : Nat) : Nat := if n = 0 then 0 else Nat.log2 n + 1
theorem lg_half {n : Nat} (h : 0 < n) : lg n = lg (n / 2) + 1 := by
  unfold lg
  rw [if_neg (by omega)]
  by_cases h1 : n / 2 = 0
  · rw [if_pos h1]
    obtain rfl : n = 1 := by omega
    rfl
  · rw [if_neg h1, Nat.log2_def, if_pos (by omega)]
theorem lg_pow {n : Nat} : ∀ {k : Nat}, 2 ^ k ≤ n → lg n = lg (n / 2 ^ k) + k
  | 0, _ => by simp
  | k + 1, h => by
    have h1 : 2 ^ k ≤ n := Nat.le_trans (Nat.pow_le_pow_right (by omega) (by omega)) h
    have h2 : 0 < n / 2 ^ k := Nat.div_pos h1 (Nat.two_pow_pos k)
    have e : n / 2 ^ k / 2 = n / 2 ^ (k + 1) := by rw [Nat.div_div_eq_div_mul, ← Nat.pow_succ]
    rw [lg_pow h1, lg_half h2, e]
    omega
theorem length_loop : ∀ (n : Nat), n < 1099511627776 → ∀ k : Nat, k + lg n ≤ 1000 → loopO spec_l2Length_s1 ((n : Int), (k : Int)) = some ((k + lg n : Nat) : Int) := by
  intro n
  induction n using Nat.strongRecOn with
  | ind n ih =>
    intro hn k hk
    rw [loopO_eq]
    simp only [spec_l2Length_s1, decide_eq_true_eq]
    by_cases h : n = 0
    · subst h
      rw [if_neg (by simp)]
      simp [lg]
    · have hg := lg_half (n := n) (by omega)
      rw [if_pos (by omega)]
      have e : (n : Int).tdiv 2 = ((n / 2 : Nat) : Int) := by rw [Int.tdiv_eq_ediv_of_nonneg (by omega)]; omega
      rw [e, w64 (by omega), w64 (by omega)]
      simp only []
      have := ih (n / 2) (by omega) (by omega) (k + 1) (by omega)
      have e2 : ((k : Int) + 1) = ((k + 1 : Nat) : Int) := by omega
      rw [e2, this]
      congr 2
      omega
theorem lg_lt {n k : Nat} (h : n < 2 ^ k) : lg n ≤ k := by
  unfold lg
  split
  · omega
  · rename_i h0
    have := (Nat.log2_lt h0).2 h
    omega
theorem length_spec {n : Nat} (h : n < 1099511627776) : spec_l2Length (n : Int) = some (lg n : Int) := by
  unfold spec_l2Length
  have h40 : lg n ≤ 40 := lg_lt (k := 40) (by omega)
  have := length_loop n h 0 (by omega)
  simp only [Int.natCast_zero, Nat.zero_add] at this
  rw [this]; rfl
theorem len8 : ∀ i : Fin 256, (([0, 1, 2, 2, 3, 3, 3, 3, 4, 4, 4, 4, 4, 4, 4, 4] ++ List.replicate 16 5 ++ List.replicate 32 6 ++ List.replicate 64 7 ++ List.replicate 128 8 : List UInt8)[i.val]?) = some (UInt8.ofNat (lg i.val)) := by decide +kernel
theorem fdiv_nat {n k : Nat} : (n : Int).fdiv (2 ^ k) = ((n / 2 ^ k : Nat) : Int) := by
  rw [Int.fdiv_eq_ediv_of_nonneg _ (by exact_mod_cast Nat.zero_le _)]
  exact_mod_cast rfl
theorem len64 {n : Nat} (h : n < 16777216) : math_bits_Len64 (n : Int) = some (lg n : Int) := by
  unfold math_bits_Len64
  have d1 : decide ((n : Int) ≥ 4294967296) = false := decide_eq_false (by omega)
  have tab : ∀ m : Nat, m < 256 → ∀ c : Int, 0 ≤ c → c ≤ 100 → (getI ([0, 1, 2, 2, 3, 3, 3, 3, 4, 4, 4, 4, 4, 4, 4, 4] ++ List.replicate 16 5 ++ List.replicate 32 6 ++ List.replicate 64 7 ++ List.replicate 128 8 : List UInt8) (IntKind.u8.wrap (m : Int))).bind (fun x12 => some (IntKind.i64.wrap (c + IntKind.i64.wrap (x12.toNat : Int)))) = some (c + lg m) := fun m hm c h0 h1 => by
    have hl : lg m ≤ 8 := lg_lt (k := 8) (by omega)
    rw [wu8 (n := (m : Int)) (by omega), getI_nat, len8 ⟨m, hm⟩]
    simp only [Option.bind_some]
    have : ((UInt8.ofNat (lg m)).toNat : Int) = lg m := by
      rw [UInt8.toNat_ofNat']
      omega
    rw [this, w64 (n := (lg m : Int)) (by omega), w64 (by omega)]
  have m32 : min 16 64 = 16 := by decide
  have m8 : min 8 64 = 8 := by decide
  by_cases h2 : 65536 ≤ n
  · have e2 : decide ((n : Int) ≥ 65536) = true := decide_eq_true (by omega)
    have hq : n / 2 ^ 16 < 256 := by omega
    have e3 : decide (((n / 2 ^ 16 : Nat) : Int) ≥ 256) = false := decide_eq_false (by omega)
    simp only [math_bits_Len64_u1, d1, Bool.false_eq_true, if_false, math_bits_Len64_u2, math_bits_Len64_u3, e2, if_true, m32, fdiv_nat, e3]
    rw [lg_pow (n := n) (k := 16) (by omega)]
    have := tab (n / 2 ^ 16) hq (IntKind.i64.wrap (0 + 16)) (by decide) (by decide)
    rw [show IntKind.i64.wrap (0 + 16) = 16 by decide] at this ⊢
    rw [show (((lg (n / 2 ^ 16) + 16 : Nat)) : Int) = 16 + lg (n / 2 ^ 16) by omega]
    exact this
  · have e2 : decide ((n : Int) ≥ 65536) = false := decide_eq_false (by omega)
    by_cases h3 : 256 ≤ n
    · have e3 : decide ((n : Int) ≥ 256) = true := decide_eq_true (by omega)
      have hq : n / 2 ^ 8 < 256 := by omega
      simp only [math_bits_Len64_u1, d1, Bool.false_eq_true, if_false, math_bits_Len64_u2, math_bits_Len64_u3, e2, e3, if_true, m8, fdiv_nat]
      rw [lg_pow (n := n) (k := 8) (by omega)]
      have := tab (n / 2 ^ 8) hq (IntKind.i64.wrap (0 + 8)) (by decide) (by decide)
      rw [show IntKind.i64.wrap (0 + 8) = 8 by decide] at this ⊢
      rw [show (((lg (n / 2 ^ 8) + 8 : Nat)) : Int) = 8 + lg (n / 2 ^ 8) by omega]
      exact this
    · have e3 : decide ((n : Int) ≥ 256) = false := decide_eq_false (by omega)
      simp only [math_bits_Len64_u1, d1, Bool.false_eq_true, if_false, math_bits_Len64_u2, math_bits_Len64_u3, e2, e3]
      have := tab n (by omega) 0 (by decide) (by decide)
      rw [Int.zero_add] at this
      exact this
theorem two_loop : ∀ (k : Nat) (m : Int), 0 ≤ m → m * 2 ^ k ≤ 1099511627776 → k ≤ 40 → loopO spec_l4Two_s1 ((k : Int), m) = some (m * 2 ^ k) := by
  intro k
  induction k with
  | zero => intro m h0 h1 h2; rw [loopO_eq]; simp only [spec_l4Two_s1]; rw [if_neg (by simp)]; simp
  | succ k ih =>
    intro m h0 h1 h2
    have e : m * 2 ^ (k + 1) = m * 2 * 2 ^ k := by rw [Int.pow_succ, Int.mul_comm (2 ^ k) 2, Int.mul_assoc]
    have hm : m * 2 ≤ 1099511627776 := by
      have hp : (1 : Int) ≤ 2 ^ k := by exact_mod_cast Nat.one_le_two_pow
      have := Int.mul_le_mul_of_nonneg_left hp (show 0 ≤ m * 2 by omega)
      rw [Int.mul_one] at this
      omega
    rw [loopO_eq]
    simp only [spec_l4Two_s1, decide_eq_true_eq]
    rw [if_pos (by omega), w64 (n := ((k + 1 : Nat) : Int) - 1) (by omega), w64 (n := m * 2) (by omega)]
    simp only []
    have e2 : ((k + 1 : Nat) : Int) - 1 = (k : Int) := by omega
    rw [e2, ih (m * 2) (by omega) (by omega) (by omega), e]
theorem two_eq {k : Nat} (h : k ≤ 40) : spec_l4Two (k : Int) = some (2 ^ k) := by
  unfold spec_l4Two
  have hp : (2 : Int) ^ k ≤ 2 ^ 40 := by exact_mod_cast Nat.pow_le_pow_right (by omega) h
  have := two_loop k 1 (by omega) (by rw [Int.one_mul]; omega) h
  rw [this]; simp
theorem pieces_same {c : Int} (h : 0 ≤ c ∧ c ≤ 1000) : impl_pieces c = spec_l4Pieces c := by
  unfold impl_pieces spec_l4Pieces
  simp only [decide_eq_true_eq]
  rw [w64 (n := c - 1) (by omega), w64 (n := c - 1 - 8) (by omega), w64 (n := c - 9) (by omega)]
  by_cases h1 : c < 2
  · rw [if_pos (by omega), if_pos h1]
  · rw [if_neg (by omega), if_neg h1]
    have : c - 1 - 8 = c - 9 := by omega
    rw [this]
theorem pieces_ok {c : Int} (h : 0 ≤ c ∧ c ≤ 17) : ∀ x ∈ spec_l4Pieces c, 1 ≤ x ∧ x ≤ 8 := by
  unfold spec_l4Pieces
  simp only [decide_eq_true_eq]
  rw [w64 (n := c - 1) (by omega), w64 (n := c - 9) (by omega)]
  intro x hx
  split at hx
  · simp at hx
  · split at hx
    · simp at hx; omega
    · simp at hx; omega
theorem zig_same {v : Int} : impl_zigOf v = spec_l4Zig v := rfl
theorem unzig_same {v : Int} : impl_unzigOf v = spec_l4Unzig v := rfl
theorem search_same {l : List Int} {a r w v : Int} (hv : 0 ≤ v ∧ v < 256) : ∀ (m c : Nat), 17 - c = m → c ≤ 17 → lowI c ≤ v → ∃ c' : Nat, c' ≤ 17 ∧ lowI c' ≤ v ∧ v < lowI c' + shareI c' ∧
    loopO (spec_l4Next_o_s3 l a r w v) (c : Int) = some (c' : Int) ∧ loopO (impl_Decoder_class_o_s1 l a r w v) (lowI c, shareI c, 256, (c : Int)) = some (c' : Int) := by
  have bd : ∀ i : Nat, i ≤ 18 → 0 ≤ lowI i ∧ 0 ≤ shareI i ∧ lowI i + shareI i ≤ 1000 := by
    intro i hi
    have : ∀ i : Fin 19, 0 ≤ lowI i.val ∧ 0 ≤ shareI i.val ∧ lowI i.val + shareI i.val ≤ 1000 := by decide +kernel
    exact this ⟨i, by omega⟩
  intro m
  induction m with
  | zero =>
    intro c hm hc hl
    obtain rfl : c = 17 := by omega
    have e := low_end
    refine ⟨17, by omega, hl, by omega, ?_, ?_⟩
    · rw [loopO_eq]
      simp only [spec_l4Next_o_s3, spec_l4Next_o_u2, decide_eq_true_eq]
      rw [if_neg (by omega)]; rfl
    · rw [loopO_eq]
      simp only [impl_Decoder_class_o_s1, decide_eq_true_eq]
      have := bd 17 (by omega)
      rw [w64 (by omega), if_neg (by omega)]
  | succ m ih =>
    intro c hm hc hl
    have b := bd c (by omega)
    have b' := bd (c + 1) (by omega)
    obtain ⟨k1, k2⟩ := class_same (n := c) (by omega)
    obtain ⟨j1, j2⟩ := class_same (n := c + 1) (by omega)
    by_cases hw : lowI c + shareI c ≤ v
    · obtain ⟨c', q1, q2, q3, q4, q5⟩ := ih (c + 1) (by omega) (by omega) (by simp only [lowI]; omega)
      have e1 : ((c + 1 : Nat) : Int) = (c : Int) + 1 := by omega
      refine ⟨c', q1, q2, q3, ?_, ?_⟩
      · rw [loopO_eq]
        simp only [spec_l4Next_o_s3, spec_l4Next_o_u2, decide_eq_true_eq]
        rw [if_pos (by omega), k1]
        simp only [Option.bind_some, share_spec, decide_eq_true_eq]
        rw [w64 (n := lowI c + shareI c) (by omega), if_pos hw, w64 (by omega), ← e1]
        exact q4
      · rw [loopO_eq]
        simp only [impl_Decoder_class_o_s1, decide_eq_true_eq]
        rw [w64 (n := lowI c + shareI c) (by omega), if_pos hw, w64 (by omega), ← e1, j2]
        simp only [Option.bind_some]
        exact q5
    · refine ⟨c, by omega, hl, by omega, ?_, ?_⟩
      · rw [loopO_eq]
        simp only [spec_l4Next_o_s3, spec_l4Next_o_u2, decide_eq_true_eq]
        rw [if_pos (by omega), k1]
        simp only [Option.bind_some, share_spec, decide_eq_true_eq]
        rw [w64 (n := lowI c + shareI c) (by omega), if_neg hw]
      · rw [loopO_eq]
        simp only [impl_Decoder_class_o_s1, decide_eq_true_eq]
        rw [w64 (n := lowI c + shareI c) (by omega), if_neg hw]
theorem or_add {n v x : Nat} (h : v < 2 ^ x) (hb : n * 2 ^ x + v < 18446744073709551616) : (BitVec.ofInt 64 ((n * 2 ^ x : Nat) : Int) ||| BitVec.ofInt 64 (v : Int)).toNat = n * 2 ^ x + v := by
  rw [BitVec.toNat_or]
  simp only [BitVec.ofInt_natCast, BitVec.toNat_ofNat]
  rw [Nat.mod_eq_of_lt (by omega), Nat.mod_eq_of_lt (by omega), ← Nat.shiftLeft_eq, Nat.shiftLeft_add_eq_or_of_lt h]
theorem piece_same {l : List Int} {ps : List Int} {a r w n : Int} {i x : Nat} (hd : DecOk ⟨l, a, r, w⟩) (hb : ∀ x ∈ l, 0 ≤ x ∧ x ≤ 255) (hn : 1 ≤ n ∧ n ≤ 1048576) (hx : 1 ≤ x ∧ x ≤ 8) (hi : ps[i]? = some (x : Int)) (hl : ps.length ≤ 10) :
    ∃ a' r' w' v, impl_Decoder_number_o_s1 ps (ps.length : Int) (l, a, r, w, n, (i : Int)) = some (.inl (l, a', r', w', n * 2 ^ x + v, (i : Int) + 1)) ∧ spec_l4Next_o_s4 ps (l, a, r, w, n, (i : Int)) = some (.inl (l, a', r', w', n * 2 ^ x + v, (i : Int) + 1)) ∧
      a ≤ a' ∧ a' ≤ a + 2 ∧ (65536 ≤ w' ∧ w' ≤ 16777216) ∧ (0 ≤ r' ∧ r' ≤ w' - 1) ∧ 0 ≤ v ∧ v < 2 ^ x := by
  have hil : i < ps.length := (List.getElem?_eq_some_iff.1 hi).1
  have p1 : (2 : Int) ≤ 2 ^ x := by
    have := Nat.pow_le_pow_right (n := 2) (by omega) hx.1
    exact_mod_cast this
  have p2 : (2 : Int) ^ x ≤ 256 := by
    have := Nat.pow_le_pow_right (n := 2) (by omega) hx.2
    exact_mod_cast this
  obtain ⟨v1, v2, v3, v4⟩ := value_same hd (t := 2 ^ x) (by omega)
  have hso : SlotOk ⟨valI ⟨l, a, r, w⟩ (2 ^ x), 1, 2 ^ x⟩ := ⟨by simp only []; omega, by simp only []; omega, v3, by simp only []; omega⟩
  obtain ⟨a', r', w', t1, t2, t3, t4, t5, t6⟩ := take_same hd hb hso (by simp only []; omega)
  simp only at t1 t2 t3 t4
  generalize hv : valI ⟨l, a, r, w⟩ (2 ^ x) = v at *
  have np : 0 ≤ n * 2 ^ x ∧ n * 2 ^ x ≤ 268435456 := by
    have q1 := Int.mul_le_mul_of_nonneg_left p2 (show 0 ≤ n by omega)
    have q2 := Int.mul_nonneg (show 0 ≤ n by omega) (show (0 : Int) ≤ 2 ^ x by omega)
    omega
  refine ⟨a', r', w', v, ?_, ?_, t3, t4, t5, t6, v3, v4⟩
  · simp only [impl_Decoder_number_o_s1, decide_eq_true_eq]
    have mn : min x 64 = x := by omega
    have or : (BitVec.ofInt 64 (n * 2 ^ x) ||| BitVec.ofInt 64 v).toNat = (n * 2 ^ x + v).toNat := by
      obtain ⟨n', rfl⟩ : ∃ m : Nat, n = m := ⟨n.toNat, by omega⟩
      obtain ⟨v', rfl⟩ : ∃ m : Nat, v = m := ⟨v.toNat, by omega⟩
      have e : ((n' : Int) * 2 ^ x) = ((n' * 2 ^ x : Nat) : Int) := by simp
      rw [e] at np ⊢
      rw [or_add (by exact_mod_cast v4) (by omega)]
      omega
    rw [if_pos (by omega), getI_nat, hi]
    simp only [Option.bind_some, Int.toNat_natCast, hi]
    rw [if_neg (by omega), mn, Int.one_mul, w64 (n := (2 : Int) ^ x) (by omega), v2]
    simp only [Option.bind_some]
    rw [if_neg (by omega), t2]
    simp only [Option.bind_some]
    rw [if_neg (by omega), w64 (n := n * 2 ^ x) (by omega), or, w64 (n := (i : Int) + 1) (by omega)]
    have : ((n * 2 ^ x + v).toNat : Int) = n * 2 ^ x + v := by omega
    rw [this, w64 (by omega)]
  · simp only [spec_l4Next_o_s4, decide_eq_true_eq]
    rw [if_pos (by omega), getI_nat, hi]
    simp only [Option.bind_some, Int.toNat_natCast, hi]
    rw [two_eq (by omega)]
    simp only [Option.bind_some, v1, t1]
    rw [w64 (n := n * 2 ^ x) (by omega), w64 (n := n * 2 ^ x + v) (by omega), w64 (by omega)]
theorem number_same {d : SDecoder} (hd : DecOk d) (hb : ∀ x ∈ d.Data, 0 ≤ x ∧ x ≤ 255) (ha : d.At ≤ 9000) : ∃ z a r w, impl_Decoder_number_o d = some (z, d.Data, a, r, w) ∧ spec_l4Next_o d = some (spec_l4Unzig z, d.Data, a, r, w) ∧
    d.At ≤ a ∧ a ≤ d.At + 6 ∧ (65536 ≤ w ∧ w ≤ 16777216) ∧ (0 ≤ r ∧ r ≤ w - 1) ∧ 0 ≤ z ∧ z < 131072 := by
  obtain ⟨v1, v2, v3, v4⟩ := value_same hd (t := 256) (by omega)
  obtain ⟨c, c1, c2, c3, c4, c5⟩ := search_same (l := d.Data) (a := d.At) (r := d.Rest) (w := d.Range) ⟨v3, v4⟩ 17 0 rfl (by omega) (by simp only [lowI]; omega)
  obtain ⟨k1, k2⟩ := class_same (n := c) (by omega)
  obtain ⟨z1, z2⟩ := class_same (n := 0) (by omega)
  have hs := low_ok c1
  obtain ⟨a, r, w, t1, t2, t3, t4, t5, t6, t7⟩ := take_same hd hb hs (by simp only []; omega)
  have cls : impl_Decoder_class_o d = some ((c : Int), d.Data, a, r, w) := by
    unfold impl_Decoder_class_o
    rw [v2]
    simp only [Option.bind_some]
    have z2' : impl_classSlot 0 = some ⟨lowI 0, shareI 0, 256⟩ := z2
    rw [z2']
    simp only [Option.bind_some]
    have c5' : loopO (impl_Decoder_class_o_s1 d.Data d.At d.Rest d.Range (valI d 256)) (lowI 0, shareI 0, 256, 0) = some (c : Int) := c5
    rw [c5']
    simp only [Option.bind_some, k2, t2]
  have c4' : loopO (spec_l4Next_o_s3 d.Data d.At d.Rest d.Range (valI d 256)) 0 = some (c : Int) := c4
  unfold impl_Decoder_number_o spec_l4Next_o
  rw [cls, v1]
  simp only [Option.bind_some, c4', k1, t1, beq_iff_eq]
  by_cases h0 : c = 0
  · subst h0
    rw [if_pos (by simp), if_pos (by simp)]
    exact ⟨0, a, r, w, rfl, rfl, t3, by omega, t5, ⟨t6, t7⟩, by omega, by omega⟩
  · rw [if_neg (by omega), if_neg (by omega), pieces_same ⟨by omega, by omega⟩]
    have fI : ∀ (ps l : List Int) (a r w n : Int), impl_Decoder_number_o_s1 ps (ps.length : Int) (l, a, r, w, n, (ps.length : Int)) = some (.inr (l, a, r, w, n)) := by
      intros; simp only [impl_Decoder_number_o_s1, decide_eq_true_eq]; rw [if_neg (by omega)]
    have fS : ∀ (ps l : List Int) (a r w n : Int), spec_l4Next_o_s4 ps (l, a, r, w, n, (ps.length : Int)) = some (.inr (l, a, r, w, n)) := by
      intros; simp only [spec_l4Next_o_s4, decide_eq_true_eq]; rw [if_neg (by omega)]
    have hcase : spec_l4Pieces (c : Int) = [] ∨ (∃ x : Nat, (1 ≤ x ∧ x ≤ 8) ∧ spec_l4Pieces c = [(x : Int)]) ∨ ∃ x : Nat, (1 ≤ x ∧ x ≤ 8) ∧ spec_l4Pieces c = [(x : Int), ((8 : Nat) : Int)] := by
      unfold spec_l4Pieces
      simp only [decide_eq_true_eq]
      rw [w64 (n := (c : Int) - 1) (by omega), w64 (n := (c : Int) - 9) (by omega)]
      by_cases q1 : (c : Int) < 2
      · rw [if_pos q1]; exact .inl rfl
      · rw [if_neg q1]
        by_cases q2 : (c : Int) - 1 > 8
        · rw [if_pos q2]
          refine .inr (.inr ⟨c - 9, by omega, ?_⟩)
          have : (c : Int) - 9 = ((c - 9 : Nat) : Int) := by omega
          rw [this]; rfl
        · rw [if_neg q2]
          refine .inr (.inl ⟨c - 1, by omega, ?_⟩)
          have : (c : Int) - 1 = ((c - 1 : Nat) : Int) := by omega
          rw [this]
    have hd1 : DecOk ⟨d.Data, a, r, w⟩ := ⟨hd.1, ⟨by have := hd.2.1; simp only []; omega, by simp only []; omega⟩, t5, t6, t7⟩
    rcases hcase with e | ⟨x, hx, e⟩ | ⟨x, hx, e⟩
    · rw [e]
      have i1 := fI [] d.Data a r w 1
      have s1 := fS [] d.Data a r w 1
      simp only [List.length_nil, Int.natCast_zero] at i1 s1 ⊢
      rw [loopO_eq, i1, loopO_eq, s1]
      exact ⟨1, a, r, w, rfl, rfl, t3, by omega, t5, ⟨t6, t7⟩, by omega, by omega⟩
    · rw [e]
      have px : (2 : Int) ^ x ≤ 256 := by
        have := Nat.pow_le_pow_right (n := 2) (by omega) hx.2
        exact_mod_cast this
      obtain ⟨a', r', w', v, i1, s1, u1, u2, u3, u4, u5, u6⟩ := piece_same (ps := [(x : Int)]) (i := 0) hd1 hb (n := 1) (by omega) hx rfl (by simp)
      have i2 := fI [(x : Int)] d.Data a' r' w' (1 * 2 ^ x + v)
      have s2 := fS [(x : Int)] d.Data a' r' w' (1 * 2 ^ x + v)
      simp only [List.length_singleton, Int.natCast_zero, Int.zero_add, Int.natCast_one] at i1 s1 i2 s2 ⊢
      rw [loopO_eq, i1, loopO_eq (step := spec_l4Next_o_s4 _), s1]
      simp only []
      rw [loopO_eq, i2, loopO_eq (step := spec_l4Next_o_s4 _), s2]
      exact ⟨1 * 2 ^ x + v, a', r', w', rfl, rfl, by omega, by omega, u3, u4, by omega, by omega⟩
    · rw [e]
      have px : (2 : Int) ^ x ≤ 256 := by
        have := Nat.pow_le_pow_right (n := 2) (by omega) hx.2
        exact_mod_cast this
      obtain ⟨a', r', w', v, i1, s1, u1, u2, u3, u4, u5, u6⟩ := piece_same (ps := [(x : Int), ((8 : Nat) : Int)]) (i := 0) hd1 hb (n := 1) (by omega) hx rfl (by simp)
      have hd2 : DecOk ⟨d.Data, a', r', w'⟩ := ⟨hd.1, ⟨by have := hd.2.1; simp only []; omega, by simp only []; omega⟩, u3, u4⟩
      obtain ⟨a2, r2, w2, v', i2, s2, g1, g2, g3, g4, g5, g6⟩ := piece_same (ps := [(x : Int), ((8 : Nat) : Int)]) (i := 1) hd2 hb (n := 1 * 2 ^ x + v) (by omega) (x := 8) (by omega) rfl (by simp)
      have i3 := fI [(x : Int), ((8 : Nat) : Int)] d.Data a2 r2 w2 ((1 * 2 ^ x + v) * 2 ^ 8 + v')
      have s3 := fS [(x : Int), ((8 : Nat) : Int)] d.Data a2 r2 w2 ((1 * 2 ^ x + v) * 2 ^ 8 + v')
      have e1 : ((0 : Nat) : Int) + 1 = ((1 : Nat) : Int) := rfl
      have e2 : ((1 : Nat) : Int) + 1 = (([(x : Int), ((8 : Nat) : Int)].length : Nat) : Int) := rfl
      rw [e1] at i1 s1
      rw [e2] at i2 s2
      have z0 : ((0 : Nat) : Int) = 0 := rfl
      rw [z0] at i1 s1
      rw [loopO_eq, i1, loopO_eq (step := spec_l4Next_o_s4 _), s1]
      simp only []
      rw [loopO_eq, i2, loopO_eq (step := spec_l4Next_o_s4 _), s2]
      simp only []
      rw [loopO_eq, i3, loopO_eq (step := spec_l4Next_o_s4 _), s3]
      have p8 : (2 : Int) ^ 8 = 256 := by decide
      rw [p8] at g6 ⊢
      exact ⟨(1 * 2 ^ x + v) * 256 + v', a2, r2, w2, rfl, rfl, by omega, by omega, g3, g4, by omega, by omega⟩
theorem slot_step {ps : List Int} {l : List SSlot} {n rest i x : Nat} (hn : n < 16777216) (hx : 1 ≤ x ∧ x ≤ 8) (hi : ps[i]? = some (x : Int)) (hr : x ≤ rest) (hr2 : rest ≤ 40) (hl : l.length ≤ 100) (hp : ps.length ≤ 10) :
    impl_slotsOf_s1 ps (n : Int) (ps.length : Int) (l, (rest : Int), (i : Int)) = some (.inl (l ++ [⟨((n / 2 ^ (rest - x) % 2 ^ x : Nat) : Int), 1, 2 ^ x⟩], ((rest - x : Nat) : Int), (i : Int) + 1)) ∧
    spec_l4Slots_s1 ps (n : Int) (l, (rest : Int), (i : Int)) = some (.inl (l ++ [⟨((n / 2 ^ (rest - x) % 2 ^ x : Nat) : Int), 1, 2 ^ x⟩], ((rest - x : Nat) : Int), (i : Int) + 1)) := by
  have hil : i < ps.length := (List.getElem?_eq_some_iff.1 hi).1
  have p1 : (2 : Int) ≤ 2 ^ x := by
    have := Nat.pow_le_pow_right (n := 2) (by omega) hx.1
    exact_mod_cast this
  have p2 : (2 : Int) ^ x ≤ 256 := by
    have := Nat.pow_le_pow_right (n := 2) (by omega) hx.2
    exact_mod_cast this
  have e1 : IntKind.i64.wrap ((rest : Int) - x) = ((rest - x : Nat) : Int) := by rw [w64 (by omega)]; omega
  have q : n / 2 ^ (rest - x) ≤ n := Nat.div_le_self _ _
  have fd : (n : Int).fdiv (2 ^ (rest - x)) = ((n / 2 ^ (rest - x) : Nat) : Int) := fdiv_nat
  have d1 : (n : Int).tdiv (2 ^ (rest - x)) = ((n / 2 ^ (rest - x) : Nat) : Int) := by
    rw [Int.tdiv_eq_ediv_of_nonneg (Int.natCast_nonneg _)]
    exact_mod_cast rfl
  have pr : (1 : Int) ≤ 2 ^ (rest - x) := by exact_mod_cast Nat.one_le_two_pow
  generalize n / 2 ^ (rest - x) = m at *
  have d2 : (m : Int).tmod (2 ^ x) = ((m % 2 ^ x : Nat) : Int) := by
    rw [Int.tmod_eq_emod_of_nonneg (Int.natCast_nonneg _)]
    exact_mod_cast rfl
  have am : (BitVec.ofInt 64 (m : Int) &&& BitVec.ofInt 64 (2 ^ x - 1)).toNat = m % 2 ^ x := by
    have := and_mask (w := 64) (a := (m : Int)) (m := x) (by omega) (by omega) (by omega) (by omega)
    rw [Int.toNat_natCast] at this
    exact this
  have q2 : m % 2 ^ x < 2 ^ x := Nat.mod_lt _ (Nat.two_pow_pos x)
  have q2' : ((m % 2 ^ x : Nat) : Int) < 2 ^ x := by exact_mod_cast q2
  have q3 : m % 2 ^ x ≤ m := Nat.mod_le _ _
  generalize m % 2 ^ x = u at *
  constructor
  · simp only [impl_slotsOf_s1, decide_eq_true_eq]
    have mn : min x 64 = x := by omega
    have mr : min (rest - x) 64 = rest - x := by omega
    rw [if_pos (by omega), getI_nat, hi]
    simp only [Option.bind_some, Int.toNat_natCast, hi, e1]
    rw [if_neg (by omega), if_neg (by omega), if_neg (by omega), mn, mr, Int.one_mul, w64 (n := (2 : Int) ^ x) (by omega), w64 (n := (2 : Int) ^ x - 1) (by omega), fd, am, w64 (n := (u : Int)) (by omega), if_pos (okApp_of (by simp; omega)), w64 (by omega)]
  · simp only [spec_l4Slots_s1, decide_eq_true_eq]
    rw [if_pos (by omega), getI_nat, hi]
    simp only [Option.bind_some, Int.toNat_natCast, hi, e1]
    rw [two_eq (by omega), two_eq (by omega)]
    simp only [Option.bind_some]
    rw [if_neg (by omega), if_neg (by omega), d1, w64 (n := (m : Int)) (by omega), d2, if_pos (okApp_of (by simp; omega)), w64 (by omega)]
theorem zig_eq {v : Int} (hv : -65535 ≤ v ∧ v ≤ 65535) : ∃ n : Nat, n < 131072 ∧ spec_l4Zig v = (n : Int) := by
  unfold spec_l4Zig
  simp only [decide_eq_true_eq]
  by_cases h : v < 0
  · rw [if_pos h, w64 (n := -2 * v) (by omega), w64 (by omega)]
    exact ⟨(-2 * v - 1).toNat, by omega, by omega⟩
  · rw [if_neg h, w64 (by omega)]
    exact ⟨(2 * v).toNat, by omega, by omega⟩
theorem pieces_cases {c : Nat} (h : c ≤ 17) : (c ≤ 1 ∧ spec_l4Pieces (c : Int) = []) ∨ (∃ x : Nat, (1 ≤ x ∧ x ≤ 8) ∧ c = x + 1 ∧ spec_l4Pieces c = [(x : Int)]) ∨ ∃ x : Nat, (1 ≤ x ∧ x ≤ 8) ∧ c = x + 9 ∧ spec_l4Pieces c = [(x : Int), ((8 : Nat) : Int)] := by
  unfold spec_l4Pieces
  simp only [decide_eq_true_eq]
  rw [w64 (n := (c : Int) - 1) (by omega), w64 (n := (c : Int) - 9) (by omega)]
  by_cases q1 : (c : Int) < 2
  · rw [if_pos q1]; exact .inl ⟨by omega, rfl⟩
  · rw [if_neg q1]
    by_cases q2 : (c : Int) - 1 > 8
    · rw [if_pos q2]
      refine .inr (.inr ⟨c - 9, by omega, by omega, ?_⟩)
      have : (c : Int) - 9 = ((c - 9 : Nat) : Int) := by omega
      rw [this]; rfl
    · rw [if_neg q2]
      refine .inr (.inl ⟨c - 1, by omega, by omega, ?_⟩)
      have : (c : Int) - 1 = ((c - 1 : Nat) : Int) := by omega
      rw [this]
theorem slot_one {n k x : Nat} (hx : 1 ≤ x ∧ x ≤ 8) : SlotOk ⟨((n / 2 ^ k % 2 ^ x : Nat) : Int), 1, 2 ^ x⟩ := by
  have p1 : (2 : Int) ≤ 2 ^ x := by
    have := Nat.pow_le_pow_right (n := 2) (by omega) hx.1
    exact_mod_cast this
  have p2 : (2 : Int) ^ x ≤ 256 := by
    have := Nat.pow_le_pow_right (n := 2) (by omega) hx.2
    exact_mod_cast this
  have q2' : ((n / 2 ^ k % 2 ^ x : Nat) : Int) < 2 ^ x := by exact_mod_cast Nat.mod_lt _ (Nat.two_pow_pos x)
  generalize n / 2 ^ k % 2 ^ x = u at *
  exact ⟨by simp only []; omega, by simp only []; omega, by simp only []; omega, by simp only []; omega⟩
theorem slots_same {v : Int} (hv : -65535 ≤ v ∧ v ≤ 65535) : ∃ l, spec_l4Slots v = some l ∧ impl_slotsOf v = some l ∧ l.length ≤ 3 ∧ ∀ s ∈ l, SlotOk s := by
  obtain ⟨n, hn, hz⟩ := zig_eq hv
  have hlg : lg n ≤ 17 := lg_lt (by omega)
  obtain ⟨k1, k2⟩ := class_same (n := lg n) (by omega)
  have hs := low_ok hlg
  unfold spec_l4Slots impl_slotsOf
  rw [zig_same, hz, wu64 (by omega), length_spec (by omega), len64 (by omega)]
  simp only [Option.bind_some, k1, k2]
  rw [pieces_same ⟨by omega, by omega⟩]
  have fI : ∀ (ps : List Int) (l : List SSlot) (z r : Int), impl_slotsOf_s1 ps z (ps.length : Int) (l, r, (ps.length : Int)) = some (.inr l) := by
    intros; simp only [impl_slotsOf_s1, decide_eq_true_eq]; rw [if_neg (by omega)]
  have fS : ∀ (ps : List Int) (l : List SSlot) (z r : Int), spec_l4Slots_s1 ps z (l, r, (ps.length : Int)) = some (.inr l) := by
    intros; simp only [spec_l4Slots_s1, decide_eq_true_eq]; rw [if_neg (by omega)]
  have z0 : ((0 : Nat) : Int) = 0 := rfl
  rcases pieces_cases hlg with ⟨_, e⟩ | ⟨x, hx, hc, e⟩ | ⟨x, hx, hc, e⟩
  · rw [e]
    have i1 := fI [] [⟨lowI (lg n), shareI (lg n), 256⟩] n (IntKind.i64.wrap ((lg n : Int) - 1))
    have s1 := fS [] [⟨lowI (lg n), shareI (lg n), 256⟩] n (IntKind.i64.wrap ((lg n : Int) - 1))
    simp only [List.length_nil, z0] at i1 s1 ⊢
    rw [loopO_eq, s1, loopO_eq, i1]
    exact ⟨_, rfl, rfl, by simp, by simpa using hs⟩
  · rw [e]
    have er : IntKind.i64.wrap ((lg n : Int) - 1) = ((lg n - 1 : Nat) : Int) := by rw [w64 (by omega)]; omega
    rw [er]
    obtain ⟨i1, s1⟩ := slot_step (ps := [(x : Int)]) (l := [⟨lowI (lg n), shareI (lg n), 256⟩]) (n := n) (rest := lg n - 1) (i := 0) (by omega) hx rfl (by omega) (by omega) (by simp) (by simp)
    have e1 : ((0 : Nat) : Int) + 1 = (([(x : Int)].length : Nat) : Int) := rfl
    rw [e1, z0] at i1 s1
    rw [loopO_eq, s1, loopO_eq (step := impl_slotsOf_s1 _ _ _), i1]
    simp only []
    rw [loopO_eq, fS, loopO_eq (step := impl_slotsOf_s1 _ _ _), fI]
    refine ⟨_, rfl, rfl, by simp, fun s hm => ?_⟩
    rcases List.mem_append.1 hm with hm | hm
    · simp at hm; subst hm; exact hs
    · simp only [List.mem_singleton] at hm; subst hm; exact slot_one hx
  · rw [e]
    have er : IntKind.i64.wrap ((lg n : Int) - 1) = ((lg n - 1 : Nat) : Int) := by rw [w64 (by omega)]; omega
    rw [er]
    obtain ⟨i1, s1⟩ := slot_step (ps := [(x : Int), ((8 : Nat) : Int)]) (l := [⟨lowI (lg n), shareI (lg n), 256⟩]) (n := n) (rest := lg n - 1) (i := 0) (by omega) hx rfl (by omega) (by omega) (by simp) (by simp)
    obtain ⟨i2, s2⟩ := slot_step (ps := [(x : Int), ((8 : Nat) : Int)]) (l := [⟨lowI (lg n), shareI (lg n), 256⟩] ++ [⟨((n / 2 ^ (lg n - 1 - x) % 2 ^ x : Nat) : Int), 1, 2 ^ x⟩]) (n := n) (rest := lg n - 1 - x) (i := 1) (x := 8) (by omega) (by omega) rfl (by omega) (by omega) (by simp) (by simp)
    have e1 : ((0 : Nat) : Int) + 1 = ((1 : Nat) : Int) := rfl
    have e2 : ((1 : Nat) : Int) + 1 = (([(x : Int), ((8 : Nat) : Int)].length : Nat) : Int) := rfl
    rw [e1, z0] at i1 s1
    rw [e2] at i2 s2
    rw [loopO_eq, s1, loopO_eq (step := impl_slotsOf_s1 _ _ _), i1]
    simp only []
    rw [loopO_eq, s2, loopO_eq (step := impl_slotsOf_s1 _ _ _), i2]
    simp only []
    rw [loopO_eq, fS, loopO_eq (step := impl_slotsOf_s1 _ _ _), fI]
    refine ⟨_, rfl, rfl, by simp, fun s hm => ?_⟩
    rcases List.mem_append.1 hm with hm | hm
    · rcases List.mem_append.1 hm with hm | hm
      · simp at hm; subst hm; exact hs
      · simp only [List.mem_singleton] at hm; subst hm; exact slot_one hx
    · simp only [List.mem_singleton] at hm; subst hm; exact slot_one (by omega)
def trimN (l : List Int) : Nat → Nat
  | 0 => 0
  | k + 1 => if l[k]? = some 0 then trimN l k else k + 1
theorem trim_spec {l : List Int} (hl : l.length ≤ 1000000) : ∀ k : Nat, k ≤ l.length → loopO (spec_l3Encode_s8 l) k = some (trimN l k)
  | 0, _ => by
    rw [loopO_eq]
    simp only [spec_l3Encode_s8, spec_l3Encode_u7]
    rw [if_neg (by decide)]; rfl
  | k + 1, h => by
    obtain ⟨x, hx, _⟩ := get_lt (l := l) (i := k) (by omega)
    have hx2 : (l.take (k + 1))[k]? = some x := by rw [List.getElem?_take_of_lt (by omega)]; exact hx
    have e1 : IntKind.i64.wrap (((k + 1 : Nat) : Int) - 1) = (k : Int) := by rw [w64 (by omega)]; omega
    rw [loopO_eq]
    simp only [spec_l3Encode_s8, spec_l3Encode_u7, e1, decide_eq_true_eq]
    rw [if_pos (by omega), getI_nat, hx2, Int.toNat_natCast, hx]
    simp only [Option.bind_some, beq_iff_eq, trimN, hx, Option.some.injEq]
    by_cases h0 : x = 0
    · rw [if_pos h0, if_pos h0]
      have : upI (k + 1) (k : Int) = some k := by unfold upI; rw [if_pos (by omega), Int.toNat_natCast]
      rw [this]
      simp only [Option.bind_some]
      exact trim_spec hl k (by omega)
    · rw [if_neg h0, if_neg h0]
theorem trim_impl {l : List Int} (hl : l.length ≤ 1000000) : ∀ k : Nat, k ≤ l.length → loopO (bytes_trimRightByte_s3 0) (l.take k) = some (l.take (trimN l k))
  | 0, _ => by
    rw [loopO_eq]
    simp only [bytes_trimRightByte_s3, bytes_trimRightByte_u2]
    rw [if_neg (by simp)]; simp [trimN]
  | k + 1, h => by
    obtain ⟨x, hx, _⟩ := get_lt (l := l) (i := k) (by omega)
    have hx2 : (l.take (k + 1))[k]? = some x := by rw [List.getElem?_take_of_lt (by omega)]; exact hx
    have hlen : (l.take (k + 1)).length = k + 1 := by rw [List.length_take]; omega
    have e1 : IntKind.i64.wrap (((k + 1 : Nat) : Int) - 1) = (k : Int) := by rw [w64 (by omega)]; omega
    rw [loopO_eq]
    simp only [bytes_trimRightByte_s3, bytes_trimRightByte_u2, hlen, e1, decide_eq_true_eq]
    rw [if_pos (by omega), getI_nat, hx2]
    simp only [Option.bind_some, beq_iff_eq, trimN, hx, Option.some.injEq]
    by_cases h0 : x = 0
    · rw [if_pos h0, if_pos h0]
      have : subI (l.take (k + 1)) 0 (k : Int) = some (l.take k) := by
        unfold subI cutI
        rw [hlen, if_pos (by omega), if_pos (by omega)]
        simp [List.take_take]
      rw [this]
      simp only [Option.bind_some]
      exact trim_impl hl k (by omega)
    · rw [if_neg h0, if_neg h0]
theorem trimRight_eq {l : List Int} (hl : l.length ≤ 1000000) : bytes_TrimRight_lit l = some (l.take (trimN l l.length)) := by
  unfold bytes_TrimRight_lit bytes_TrimRight_lit_u1
  have ne : (([0] : List UInt8) == []) = false := rfl
  rcases Nat.eq_zero_or_pos l.length with h | h
  · obtain rfl : l = [] := List.eq_nil_of_length_eq_zero h
    simp
  · have h1 : ¬ ((l.length : Int) = 0) := by omega
    have := trim_impl hl l.length (by omega)
    rw [List.take_length] at this
    simp [h1, bytes_trimRightByte, this]
    intro e; rw [e] at h; simp at h
def numR : List Int → Int
  | [] => 0
  | x :: l => x + 256 * numR l
def carryR : List Int → List Int
  | [] => []
  | x :: l => if x = 255 then 0 :: carryR l else (x + 1) :: l
theorem carryR_len : ∀ l : List Int, (carryR l).length = l.length
  | [] => rfl
  | x :: l => by simp only [carryR]; split <;> simp [carryR_len l]
theorem carryR_bytes : ∀ {l : List Int}, (∀ x ∈ l, 0 ≤ x ∧ x ≤ 255) → ∀ x ∈ carryR l, 0 ≤ x ∧ x ≤ 255
  | [], h => by simp [carryR]
  | x :: l, h => by
    have hx := h x (by simp)
    have hl : ∀ y ∈ l, 0 ≤ y ∧ y ≤ 255 := fun y hy => h y (by simp [hy])
    simp only [carryR]
    split
    · intro y hy
      rcases List.mem_cons.1 hy with rfl | hy
      · omega
      · exact carryR_bytes hl y hy
    · intro y hy
      rcases List.mem_cons.1 hy with rfl | hy
      · omega
      · exact hl y hy
theorem numR_pos : ∀ {l : List Int}, (∀ x ∈ l, 0 ≤ x ∧ x ≤ 255) → 0 ≤ numR l
  | [], _ => by simp [numR]
  | x :: l, h => by
    have hx := h x (by simp)
    have := numR_pos (l := l) fun y hy => h y (by simp [hy])
    simp only [numR]; omega
theorem carryR_num : ∀ {l : List Int}, (∃ x ∈ l, x ≠ 255) → numR (carryR l) = numR l + 1
  | [], h => by obtain ⟨_, h, _⟩ := h; simp at h
  | x :: l, h => by
    simp only [carryR]
    by_cases hx : x = 255
    · rw [if_pos hx]
      obtain ⟨y, hy, hn⟩ := h
      rcases List.mem_cons.1 hy with rfl | hy
      · exact absurd hx hn
      · have := carryR_num (l := l) ⟨y, hy, hn⟩
        simp only [numR, this]; omega
    · rw [if_neg hx]; simp only [numR]; omega
theorem not_full : ∀ {l : List Int} {k : Int}, numR l + 1 < 256 ^ l.length → ∃ x ∈ l, x ≠ 255
  | [], _, h => by simp [numR] at h
  | x :: l, k, h => by
    by_cases hx : x = 255
    · subst hx
      simp only [numR, List.length_cons, Int.pow_succ] at h
      obtain ⟨y, hy, hn⟩ := not_full (l := l) (k := k) (by generalize (256 : Int) ^ l.length = p at *; omega)
      exact ⟨y, by simp [hy], hn⟩
    · exact ⟨x, by simp, hx⟩
theorem numR_cons {l : List Int} {x : Int} : numR (l ++ [x]).reverse = x + 256 * numR l.reverse := by simp [numR]
def carryF (l : List Int) : List Int := (carryR l.reverse).reverse
theorem carryF_len {l : List Int} : (carryF l).length = l.length := by simp [carryF, carryR_len]
theorem carry_loops : ∀ (r c : List Int), r.length ≤ 100000 → (∀ x ∈ r, 0 ≤ x ∧ x ≤ 255) → (∃ x ∈ r, x ≠ 255) → ∃ (x : Int) (r2 z : List Int), 0 ≤ x ∧ x < 255 ∧ r2.length < r.length ∧ (carryR r).reverse ++ c = r2.reverse ++ (x + 1) :: z ∧
    loopO impl_carry_s1 (r.reverse ++ c, (r.length : Int) - 1) = some (r2.reverse ++ x :: z, (r2.length : Int)) ∧
    loopO spec_l3Carry_s1 (r.reverse ++ c, (r.length : Int) - 1) = some (.inr ((carryR r).reverse ++ c))
  | [], c, _, _, h => by obtain ⟨_, h, _⟩ := h; simp at h
  | x :: r, c, hl, hb, h => by
    have hx := hb x (by simp)
    simp only [List.length_cons] at hl
    have e0 : (((x :: r).length : Nat) : Int) - 1 = (r.length : Int) := by simp only [List.length_cons]; omega
    have eg : ((x :: r).reverse ++ c)[r.length]? = some x := by simp
    have es : ∀ v, ((x :: r).reverse ++ c).set r.length v = r.reverse ++ v :: c := fun v => by simp [List.set_append]
    rw [e0, loopO_eq, loopO_eq (step := spec_l3Carry_s1)]
    simp only [impl_carry_s1, spec_l3Carry_s1, getI_nat, Int.toNat_natCast, eg, es, Option.bind_some, decide_eq_true_eq, beq_iff_eq]
    rw [if_pos (show (r.length : Int) ≥ 0 by omega)]
    by_cases h5 : x = 255
    · rw [if_pos h5, if_neg (by omega)]
      simp only [carryR, if_pos h5]
      obtain ⟨y, hy, hn⟩ := h
      have hy' : y ∈ r := by
        rcases List.mem_cons.1 hy with rfl | hy
        · exact absurd h5 hn
        · exact hy
      obtain ⟨x2, r2, z, q1, q2, q3, q4, q5, q6⟩ := carry_loops r (0 :: c) (by omega) (fun y hy => hb y (by simp [hy])) ⟨y, hy', hn⟩
      rw [w64 (by omega)]
      refine ⟨x2, r2, z, q1, q2, by simp only [List.length_cons]; omega, ?_, q5, ?_⟩
      · simpa using q4
      · simpa using q6
    · rw [if_neg h5, if_pos (by omega)]
      simp only [carryR, if_neg h5]
      rw [wu8 (by omega)]
      exact ⟨x, r, c, hx.1, by omega, by simp, by simp, by simp, by simp⟩
theorem carry_same {l : List Int} (hl : l.length ≤ 100000) (hb : ∀ x ∈ l, 0 ≤ x ∧ x ≤ 255) (h : ∃ x ∈ l, x ≠ 255) : impl_carry l = some (carryF l) ∧ spec_l3Carry l = some (carryF l) := by
  obtain ⟨y, hy, hn⟩ := h
  obtain ⟨x, r2, z, q1, q2, q3, q4, q5, q6⟩ := carry_loops l.reverse [] (by simpa using hl) (fun x hx => hb x (by simpa using hx)) ⟨y, by simpa using hy, hn⟩
  simp only [List.reverse_reverse, List.append_nil, List.length_reverse] at q3 q4 q5 q6
  have hp : 0 < l.length := by cases l with
    | nil => simp at hy
    | cons => simp
  constructor
  · unfold impl_carry
    rw [w64 (by omega), q5]
    have eg : (r2.reverse ++ x :: z)[r2.length]? = some x := by simp
    have es : ∀ v, (r2.reverse ++ x :: z).set r2.length v = r2.reverse ++ v :: z := fun v => by simp [List.set_append]
    simp only [Option.bind_some, getI_nat, Int.toNat_natCast, eg, es]
    rw [wu8 (by omega), carryF, q4]
  · unfold spec_l3Carry spec_l1Copy
    rw [if_pos (okApp_of (by omega))]
    simp only [Option.bind_some]
    rw [w64 (by omega), q6]
    rfl
/-- The encoder's state: bytes, low, width. -/
def EInv (o : List Int) (l w : Int) : Prop := (∀ x ∈ o, 0 ≤ x ∧ x ≤ 255) ∧ (0 ≤ l ∧ l < 16777216) ∧ (1 ≤ w ∧ w ≤ 16777216) ∧ numR o.reverse * 16777216 + l + w ≤ 256 ^ o.length * 16777216
def emit : Nat → List Int → Int → Int → List Int × Int × Int
  | 0, o, l, w => (o, l, w)
  | n + 1, o, l, w => if w < 65536 then emit n (o ++ [l / 65536]) (l % 65536 * 256) (w * 256) else (o, l, w)
theorem emit_inv {o : List Int} {l w : Int} (h : EInv o l w) (hw : w < 65536) : EInv (o ++ [l / 65536]) (l % 65536 * 256) (w * 256) := by
  obtain ⟨h1, h2, h3, h4⟩ := h
  refine ⟨fun x hx => ?_, by omega, by omega, ?_⟩
  · rcases List.mem_append.1 hx with hx | hx
    · exact h1 x hx
    · simp at hx; omega
  · rw [numR_cons, List.length_append, List.length_singleton, Int.pow_succ]
    generalize numR o.reverse = a at *
    generalize (256 : Int) ^ o.length = p at *
    omega
theorem emit_same {ls : List SSlot} {i1 i2 i3 : Int} : ∀ (n : Nat) (o : List Int) (l w : Int), EInv o l w → 65536 ≤ w * 256 ^ n → o.length + n ≤ 100000 →
    loopO (spec_l3Encode_s4 ls i1) (o, l, w) = some (emit n o l w) ∧ loopO (impl_encode_s4 ls i2 i3) (o, l, w) = some (emit n o l w) ∧
    EInv (emit n o l w).1 (emit n o l w).2.1 (emit n o l w).2.2 ∧ 65536 ≤ (emit n o l w).2.2 ∧ (emit n o l w).1.length ≤ o.length + n
  | 0, o, l, w, h, hw, hl => by
    have : 65536 ≤ w := by simpa using hw
    rw [loopO_eq, loopO_eq (step := impl_encode_s4 _ _ _)]
    simp only [spec_l3Encode_s4, impl_encode_s4, decide_eq_true_eq]
    rw [if_neg (by omega), if_neg (by omega)]
    exact ⟨rfl, rfl, h, this, by simp [emit]⟩
  | n + 1, o, l, w, h, hw, hl => by
    rw [loopO_eq, loopO_eq (step := impl_encode_s4 _ _ _)]
    simp only [spec_l3Encode_s4, impl_encode_s4, decide_eq_true_eq, emit]
    by_cases hc : w < 65536
    · have hi := emit_inv h hc
      obtain ⟨h1, h2, h3, h4⟩ := h
      have ef : l.fdiv (2 ^ (min 16 64)) = l / 65536 := by
        rw [show min 16 64 = 16 by decide, fdiv_pow h2.1]
        obtain ⟨n, rfl⟩ : ∃ n : Nat, l = n := ⟨l.toNat, by omega⟩
        simp
      have et : l.tdiv 65536 = l / 65536 := Int.tdiv_eq_ediv_of_nonneg h2.1
      have em : l.tmod 65536 = l % 65536 := Int.tmod_eq_emod_of_nonneg h2.1
      rw [ef, et, em, w64 (n := l / 65536) (by omega), wu8 (by omega), w64 (by omega), w64 (n := w * 256) (by omega)]
      rw [if_pos hc, if_pos hc, if_pos (okApp_of (by rw [List.length_append, List.length_singleton]; omega))]
      obtain ⟨q1, q2, q3, q4, q5⟩ := emit_same (ls := ls) (i1 := i1) (i2 := i2) (i3 := i3) n _ _ _ hi (by rw [Int.pow_succ, Int.mul_comm (256 ^ n) 256, ← Int.mul_assoc] at hw; exact hw) (by simp; omega)
      refine ⟨q1, q2, q3, q4, ?_⟩
      simp only [List.length_append, List.length_singleton] at q5
      omega
    · rw [if_neg hc, if_neg hc, if_neg hc]
      exact ⟨rfl, rfl, h, by simp only []; omega, by simp⟩
def encStep (st : List Int × Int × Int) (s : SSlot) : List Int × Int × Int :=
  if st.2.1 + st.2.2 / s.Total * s.Low ≥ 16777216 then emit 2 (carryF st.1) (st.2.1 + st.2.2 / s.Total * s.Low - 16777216) (widthI st.2.2 s) else emit 2 st.1 (st.2.1 + st.2.2 / s.Total * s.Low) (widthI st.2.2 s)
def enc (ls : List SSlot) : List Int × Int × Int := ls.foldl encStep ([], 0, 16777216)
/-- Behind a slot, before bytes go out: carried. -/
theorem carried {o : List Int} {l w : Int} {s : SSlot} (h : EInv o l w) (hw : 65536 ≤ w) (hs : SlotOk s) :
    (l + w / s.Total * s.Low < 16777216 → EInv o (l + w / s.Total * s.Low) (widthI w s)) ∧
    (l + w / s.Total * s.Low ≥ 16777216 → (∃ x ∈ o, x ≠ 255) ∧ EInv (carryF o) (l + w / s.Total * s.Low - 16777216) (widthI w s)) ∧ 64 ≤ widthI w s ∧ 0 ≤ w / s.Total * s.Low ∧ w / s.Total * s.Low ≤ 16777216 := by
  obtain ⟨h1, h2, h3, h4⟩ := h
  obtain ⟨n1, n2, n3, n4, n5⟩ := narrow_same ⟨hw, h3.2⟩ hs
  obtain ⟨m1, m2, m3, m4⟩ := unit_mul hw hs
  have hsum : w / s.Total * s.Low + widthI w s ≤ w := by
    unfold widthI
    split
    · omega
    · omega
  generalize w / s.Total * s.Low = u at *
  generalize widthI w s = v at *
  refine ⟨fun hc => ⟨h1, by omega, by omega, by omega⟩, fun hc => ?_, n4, m3, by omega⟩
  have hf : ∃ x ∈ o, x ≠ 255 := by
    have hpos := numR_pos (l := o.reverse) fun x hx => h1 x (by simpa using hx)
    obtain ⟨x, hx, hn⟩ := not_full (l := o.reverse) (k := 0) (by
      rw [List.length_reverse]
      generalize (256 : Int) ^ o.length = p at *
      omega)
    exact ⟨x, by simpa using hx, hn⟩
  refine ⟨hf, fun x hx => ?_, by omega, by omega, ?_⟩
  · unfold carryF at hx
    exact carryR_bytes (l := o.reverse) (fun x hx => h1 x (List.mem_reverse.1 hx)) x (List.mem_reverse.1 hx)
  · rw [carryF_len]
    unfold carryF
    rw [List.reverse_reverse, carryR_num (by obtain ⟨x, hx, hn⟩ := hf; exact ⟨x, by simpa using hx, hn⟩)]
    generalize (256 : Int) ^ o.length = p at *
    omega
theorem encStep_inv {o : List Int} {l w : Int} {s : SSlot} (h : EInv o l w) (hw : 65536 ≤ w) (hs : SlotOk s) (hl : o.length ≤ 90000) :
    EInv (encStep (o, l, w) s).1 (encStep (o, l, w) s).2.1 (encStep (o, l, w) s).2.2 ∧ 65536 ≤ (encStep (o, l, w) s).2.2 ∧ (encStep (o, l, w) s).1.length ≤ o.length + 2 := by
  obtain ⟨c1, c2, c3, c4, c5⟩ := carried h hw hs
  simp only [encStep]
  split
  · rename_i hc
    obtain ⟨_, c2⟩ := c2 hc
    obtain ⟨_, _, q3, q4, q5⟩ := emit_same (ls := []) (i1 := 0) (i2 := 0) (i3 := 0) 2 _ _ _ c2 (by simp only [Int.reducePow]; omega) (by rw [carryF_len]; omega)
    exact ⟨q3, q4, by rw [carryF_len] at q5; exact q5⟩
  · rename_i hc
    obtain ⟨_, _, q3, q4, q5⟩ := emit_same (ls := []) (i1 := 0) (i2 := 0) (i3 := 0) 2 _ _ _ (c1 (by omega)) (by simp only [Int.reducePow]; omega) (by omega)
    exact ⟨q3, q4, q5⟩
theorem enc_take {ls : List SSlot} {i : Nat} {s : SSlot} (h : ls[i]? = some s) : enc (ls.take (i + 1)) = encStep (enc (ls.take i)) s := by
  unfold enc
  rw [List.take_add_one, h]
  simp
theorem enc_inv {ls : List SSlot} (hs : ∀ s ∈ ls, SlotOk s) (hl : ls.length ≤ 40000) : ∀ i : Nat, EInv (enc (ls.take i)).1 (enc (ls.take i)).2.1 (enc (ls.take i)).2.2 ∧ 65536 ≤ (enc (ls.take i)).2.2 ∧ (enc (ls.take i)).1.length ≤ 2 * (min i ls.length)
  | 0 => by simp [enc, EInv, numR]
  | i + 1 => by
    obtain ⟨h1, h2, h3⟩ := enc_inv hs hl i
    rcases Nat.lt_or_ge i ls.length with h | h
    · obtain ⟨s, hx, hm⟩ := get_lt h
      rw [enc_take hx]
      generalize enc (ls.take i) = st at *
      obtain ⟨o, l, w⟩ := st
      have h3' : o.length ≤ 2 * min i ls.length := h3
      obtain ⟨q1, q2, q3⟩ := encStep_inv (o := o) (l := l) (w := w) h1 h2 (hs s hm) (by omega)
      exact ⟨q1, q2, by omega⟩
    · rw [List.take_of_length_le (by omega)] at h1 h2 h3 ⊢
      exact ⟨h1, h2, by omega⟩
theorem enc_loops {ls : List SSlot} (hs : ∀ s ∈ ls, SlotOk s) (hl : ls.length ≤ 40000) : loopO (spec_l3Encode_s5 ls) ([], 0, 16777216, 0) = some ((enc ls).1, (enc ls).2.1) ∧ loopO (impl_encode_s5 ls (ls.length : Int)) ([], 0, 16777216, 0) = some ((enc ls).1, (enc ls).2.1) := by
  obtain ⟨t, h1, h2, rfl⟩ := loop_same (step1 := impl_encode_s5 ls (ls.length : Int)) (step2 := spec_l3Encode_s5 ls) (fun i s => s = ((enc (ls.take i)).1, (enc (ls.take i)).2.1, (enc (ls.take i)).2.2, (i : Int)))
      (fun t => t = ((enc ls).1, (enc ls).2.1)) ls.length (by
    rintro i s hi rfl
    obtain ⟨g1, g2, g3⟩ := enc_inv hs hl i
    simp only [spec_l3Encode_s5, impl_encode_s5, decide_eq_true_eq]
    rcases Nat.lt_or_ge i ls.length with h | h
    · obtain ⟨s, hx, hm⟩ := get_lt h
      rw [enc_take hx]
      obtain ⟨c1, c2, c3, c4, c5⟩ := carried g1 g2 (hs s hm)
      obtain ⟨n1, n2, n3, n4, n5⟩ := narrow_same ⟨g2, g1.2.2.1.2⟩ (hs s hm)
      have ht : ¬ s.Total = 0 := by have := (hs s hm).1; omega
      have hlow := g1.2.1
      generalize enc (ls.take i) = st at *
      obtain ⟨o, l, w⟩ := st
      simp only [] at g1 g2 g3 c1 c2 c3 c4 c5 n1 n2 n3 n4 n5 hlow
      rw [if_pos (by omega), if_pos (by omega), getI_nat, hx]
      simp only [Option.bind_some]
      rw [if_neg ht, n3, n1, n2]
      simp only [Option.bind_some]
      rw [w64 (n := l + w / s.Total * s.Low) (by omega)]
      simp only [encStep]
      by_cases hc : l + w / s.Total * s.Low ≥ 16777216
      · obtain ⟨cf, c2⟩ := c2 hc
        obtain ⟨k1, k2⟩ := carry_same (l := o) (by omega) g1.1 cf
        rw [decide_eq_true hc]
        simp only [impl_encode_u3, spec_l3Encode_u3, if_true, k1, k2, Option.bind_some, carryF_len, if_pos hc]
        rw [w64 (n := l + w / s.Total * s.Low - 16777216) (by omega)]
        obtain ⟨q1, q2, q3, q4, q5⟩ := emit_same (ls := ls) (i1 := i) (i2 := ls.length) (i3 := i) 2 _ _ _ c2 (by simp only [Int.reducePow]; omega) (by rw [carryF_len]; omega)
        simp only [q1, q2, Option.bind_some]
        rw [w64 (n := (i : Int) + 1) (by omega)]
        exact ⟨by trivial, .inl ⟨h, _, rfl, by simp⟩⟩
      · rw [decide_eq_false hc]
        simp only [impl_encode_u3, spec_l3Encode_u3, Bool.false_eq_true, if_false, Option.bind_some, if_neg hc]
        obtain ⟨q1, q2, q3, q4, q5⟩ := emit_same (ls := ls) (i1 := i) (i2 := ls.length) (i3 := i) 2 _ _ _ (c1 (by omega)) (by simp only [Int.reducePow]; omega) (by omega)
        simp only [q1, q2, Option.bind_some]
        rw [w64 (n := (i : Int) + 1) (by omega)]
        exact ⟨by trivial, .inl ⟨h, _, rfl, by simp⟩⟩
    · obtain rfl : i = ls.length := by omega
      rw [if_neg (by omega), if_neg (by omega), List.take_length]
      exact ⟨rfl, .inr ⟨_, rfl, rfl⟩⟩) (s := ([], 0, 16777216, 0)) (by simp [enc])
  exact ⟨h2, h1⟩
/-- The bytes before zeros are cut. -/
def encRaw (ls : List SSlot) : List Int := (enc ls).1 ++ [(enc ls).2.1 / 65536, (enc ls).2.1 / 256 % 256, (enc ls).2.1 % 256]
def encBytes (ls : List SSlot) : List Int := (encRaw ls).take (trimN (encRaw ls) (encRaw ls).length)
theorem encode_same {ls : List SSlot} (hs : ∀ s ∈ ls, SlotOk s) (hl : ls.length ≤ 40000) : spec_l3Encode ls = some (encBytes ls) ∧ impl_encode ls = some (encBytes ls) ∧ (∀ x ∈ encBytes ls, 0 ≤ x ∧ x ≤ 255) ∧ (encBytes ls).length ≤ 100000 := by
  obtain ⟨h1, h2⟩ := enc_loops hs hl
  have gi := enc_inv hs hl ls.length
  rw [List.take_length] at gi
  obtain ⟨⟨g1, g2, g3, g4⟩, g5, g6⟩ := gi
  have e1 : IntKind.u8.wrap (IntKind.i64.wrap ((enc ls).2.1.tdiv 65536)) = (enc ls).2.1 / 65536 := by
    rw [Int.tdiv_eq_ediv_of_nonneg g2.1, w64 (by omega), wu8 (by omega)]
  have e2 : IntKind.u8.wrap ((IntKind.i64.wrap ((enc ls).2.1.tdiv 256)).tmod 256) = (enc ls).2.1 / 256 % 256 := by
    rw [Int.tdiv_eq_ediv_of_nonneg g2.1, w64 (by omega), Int.tmod_eq_emod_of_nonneg (by omega), wu8 (by omega)]
  have e3 : IntKind.u8.wrap ((enc ls).2.1.tmod 256) = (enc ls).2.1 % 256 := by
    rw [Int.tmod_eq_emod_of_nonneg g2.1, wu8 (by omega)]
  have f1 : IntKind.u8.wrap ((enc ls).2.1.fdiv (2 ^ (min 16 64))) = (enc ls).2.1 / 65536 := by
    rw [show min 16 64 = 16 by decide, fdiv_pow g2.1]
    generalize (enc ls).2.1 = l at *
    obtain ⟨n, rfl⟩ : ∃ n : Nat, l = n := ⟨l.toNat, by omega⟩
    rw [wu8 (by simp; omega)]; simp
  have u8m : ∀ n : Int, IntKind.u8.wrap n = n % 256 := fun n => by simp [IntKind.wrap, IntKind.bits, IntKind.signed]
  have f2 : IntKind.u8.wrap ((enc ls).2.1.fdiv (2 ^ (min 8 64))) = (enc ls).2.1 / 256 % 256 := by
    rw [show min 8 64 = 8 by decide, fdiv_pow g2.1, u8m]
    generalize (enc ls).2.1 = l at *
    obtain ⟨n, rfl⟩ : ∃ n : Nat, l = n := ⟨l.toNat, by omega⟩
    simp
  have f3 : IntKind.u8.wrap ((enc ls).2.1) = (enc ls).2.1 % 256 := u8m _
  have hlen : (encRaw ls).length ≤ 90000 := by simp [encRaw]; omega
  refine ⟨?_, ?_, fun x hx => ?_, ?_⟩
  · unfold spec_l3Encode
    rw [h1]
    simp only [Option.bind_some, e1, e2, e3]
    have he : (enc ls).1 ++ [(enc ls).2.1 / 65536, (enc ls).2.1 / 256 % 256, (enc ls).2.1 % 256] = encRaw ls := rfl
    rw [he, if_pos (okApp_of (by omega)), trim_spec (by omega) _ (by omega)]
    rfl
  · unfold impl_encode
    rw [h2]
    simp only [Option.bind_some, f1, f2, f3]
    have he : (enc ls).1 ++ [(enc ls).2.1 / 65536, (enc ls).2.1 / 256 % 256, (enc ls).2.1 % 256] = encRaw ls := rfl
    rw [he, if_pos (okApp_of (by omega)), trimRight_eq (by omega)]
    simp only [Option.bind_some]
    unfold slices_Clone_byte
    rw [if_pos (okApp_of (by rw [List.length_take]; omega))]
    rfl
  · have hx := List.mem_of_mem_take hx
    unfold encRaw at hx
    rcases List.mem_append.1 hx with hx | hx
    · exact g1 x hx
    · simp at hx; omega
  · unfold encBytes; rw [List.length_take]; omega
/-- n values, decoded one behind the other. -/
theorem decode_loops {d : List Int} (hb : ∀ x ∈ d, 0 ≤ x ∧ x ≤ 255) (hd : d.length ≤ 600) (n : Nat) (hn : n ≤ 64) {a r w : Int} (h0 : 0 ≤ a ∧ a ≤ 10) (hw : 65536 ≤ w ∧ w ≤ 16777216) (hr : 0 ≤ r ∧ r ≤ w - 1) :
    ∃ out, loopO (spec_l4Decode_s1 d) (a, r, w, d, [], (n : Int)) = some out ∧ loopO (impl_DecodeValues_s1 d (n : Int)) (a, r, w, d, [], 0) = some out ∧ out.length = n ∧ ∀ x ∈ out, -65536 ≤ x ∧ x ≤ 65535 := by
  have key : ∀ (m i : Nat), n - i = m → i ≤ n → ∀ (a r w : Int) (o : List Int), 0 ≤ a → a ≤ 10 + 6 * i → (65536 ≤ w ∧ w ≤ 16777216) → (0 ≤ r ∧ r ≤ w - 1) → o.length = i → (∀ x ∈ o, -65536 ≤ x ∧ x ≤ 65535) →
      ∃ out, loopO (spec_l4Decode_s1 d) (a, r, w, d, o, ((n - i : Nat) : Int)) = some out ∧ loopO (impl_DecodeValues_s1 d (n : Int)) (a, r, w, d, o, (i : Int)) = some out ∧ out.length = n ∧ ∀ x ∈ out, -65536 ≤ x ∧ x ≤ 65535 := by
    intro m
    induction m with
    | zero =>
      intro i hm hi a r w o h0 h1 hw hr ho hx
      obtain rfl : i = n := by omega
      rw [loopO_eq, loopO_eq (step := impl_DecodeValues_s1 _ _)]
      simp only [spec_l4Decode_s1, impl_DecodeValues_s1, decide_eq_true_eq]
      rw [if_neg (by omega), if_neg (by omega)]
      exact ⟨o, rfl, rfl, ho, hx⟩
    | succ m ih =>
      intro i hm hi a r w o h0 h1 hw hr ho hx
      have ha1 : a ≤ 10000 := by omega
      have ha2 : a ≤ 9000 := by omega
      obtain ⟨z, a', r', w', q1, q2, q3, q4, q5, q6, q7, q8⟩ := number_same (d := ⟨d, a, r, w⟩) ⟨hd, ⟨h0, ha1⟩, hw, hr⟩ hb ha2
      rw [loopO_eq, loopO_eq (step := impl_DecodeValues_s1 _ _)]
      simp only [spec_l4Decode_s1, impl_DecodeValues_s1, decide_eq_true_eq, q1, q2, Option.bind_some, unzig_same]
      have hok : okApp 8 (o ++ [spec_l4Unzig z]).length = true := okApp_of (by rw [List.length_append, List.length_singleton]; omega)
      simp only [hok, if_true]
      rw [if_pos (by omega), if_pos (by omega), w64 (n := (i : Int) + 1) (by omega), w64 (by omega)]
      simp only [] at q3 q4
      have hz : -65536 ≤ spec_l4Unzig z ∧ spec_l4Unzig z ≤ 65535 := by
        unfold spec_l4Unzig
        rw [Int.tmod_eq_emod_of_nonneg q7]
        split
        · rw [w64 (n := z + 1) (by omega), w64 (n := 0 - (z + 1)) (by omega)]
          have e : (0 - (z + 1)).tdiv 2 = -((z + 1) / 2) := by
            rw [show 0 - (z + 1) = -(z + 1) by omega, Int.neg_tdiv, Int.tdiv_eq_ediv_of_nonneg (by omega)]
          rw [e, w64 (by omega)]; omega
        · rw [Int.tdiv_eq_ediv_of_nonneg q7, w64 (by omega)]; omega
      obtain ⟨out, k1, k2, k3, k4⟩ := ih (i + 1) (by omega) (by omega) a' r' w' (o ++ [spec_l4Unzig z]) (by omega) (by omega) q5 q6 (by simp [ho]) (fun x hm => by
        rcases List.mem_append.1 hm with hm | hm
        · exact hx x hm
        · simp only [List.mem_singleton] at hm; subst hm; exact hz)
      refine ⟨out, ?_, ?_, k3, k4⟩
      · have e : ((n - i : Nat) : Int) - 1 = ((n - (i + 1) : Nat) : Int) := by omega
        rw [e]; exact k1
      · exact k2
  exact key n 0 (by omega) (by omega) a r w [] (by omega) (by omega) hw hr rfl (by simp)
noncomputable def slotsL : List Int → List SSlot
  | [] => []
  | v :: l => (spec_l4Slots v).getD [] ++ slotsL l
theorem slotsL_append : ∀ {l m : List Int}, slotsL (l ++ m) = slotsL l ++ slotsL m
  | [], m => rfl
  | v :: l, m => by simp [slotsL, slotsL_append (l := l) (m := m)]
theorem slotsL_ok : ∀ {l : List Int}, (∀ x ∈ l, -65535 ≤ x ∧ x ≤ 65535) → (slotsL l).length ≤ 3 * l.length ∧ ∀ s ∈ slotsL l, SlotOk s
  | [], _ => by simp [slotsL]
  | v :: l, h => by
    obtain ⟨s, h1, h2, h3, h4⟩ := slots_same (v := v) (h v (by simp))
    obtain ⟨q1, q2⟩ := slotsL_ok (l := l) fun x hx => h x (by simp [hx])
    simp only [slotsL, h1, Option.getD_some, List.length_append, List.length_cons]
    refine ⟨by omega, fun x hx => ?_⟩
    rcases List.mem_append.1 hx with hx | hx
    · exact h4 x hx
    · exact q2 x hx
theorem values_loops {l : List Int} (hl : l.length ≤ 64) (h : ∀ x ∈ l, -65535 ≤ x ∧ x ≤ 65535) : loopO (spec_l4Encode_s1 l) ([], 0) = some (slotsL l) ∧ loopO (impl_EncodeValues_s1 l (l.length : Int)) ([], 0) = some (.inl (slotsL l)) := by
  have step : ∀ i : Nat, i ≤ l.length → (i < l.length → ∃ v s, l[i]? = some v ∧ spec_l4Slots v = some s ∧ impl_slotsOf v = some s ∧ impl_isValue v = true ∧ slotsL (l.take (i + 1)) = slotsL (l.take i) ++ s ∧ okApp 24 (slotsL (l.take i) ++ s).length = true) := by
    intro i hi hh
    obtain ⟨v, hv, hm⟩ := get_lt hh
    obtain ⟨s, h1, h2, h3, h4⟩ := slots_same (v := v) (h v hm)
    have e : slotsL (l.take (i + 1)) = slotsL (l.take i) ++ s := by
      rw [List.take_add_one, hv]
      simp only [Option.toList_some]
      rw [slotsL_append]; simp [slotsL, h1]
    obtain ⟨g1, _⟩ := slotsL_ok (l := l.take i) fun x hx => h x (List.mem_of_mem_take hx)
    rw [List.length_take] at g1
    refine ⟨v, s, hv, h1, h2, ?_, e, okApp_of (by rw [List.length_append]; omega)⟩
    have := h v hm
    simp only [impl_isValue, impl_within, impl_inRange_eq]
    rw [w64 (by omega)]
    simp; omega
  constructor
  · obtain ⟨t, h1, rfl⟩ := loop_rule (step := spec_l4Encode_s1 l) (fun i s => s = (slotsL (l.take i), (i : Int))) (fun t => t = slotsL l) l.length (by
      rintro i s hi rfl
      simp only [spec_l4Encode_s1, decide_eq_true_eq]
      rcases Nat.lt_or_ge i l.length with hh | hh
      · obtain ⟨v, s, h1, h2, h3, h4, h5, h6⟩ := step i hi hh
        rw [if_pos (by omega), getI_nat, h1]
        simp only [Option.bind_some, h2]
        rw [if_pos h6, w64 (by omega), ← h5]
        exact .inl ⟨hh, _, rfl, by simp⟩
      · obtain rfl : i = l.length := by omega
        rw [if_neg (by omega), List.take_length]
        exact .inr ⟨_, rfl, rfl⟩) (s := ([], 0)) (by simp [slotsL])
    exact h1
  · obtain ⟨t, h1, rfl⟩ := loop_rule (step := impl_EncodeValues_s1 l (l.length : Int)) (fun i s => s = (slotsL (l.take i), (i : Int))) (fun t => t = .inl (slotsL l)) l.length (by
      rintro i s hi rfl
      simp only [impl_EncodeValues_s1, decide_eq_true_eq]
      rcases Nat.lt_or_ge i l.length with hh | hh
      · obtain ⟨v, s, h1, h2, h3, h4, h5, h6⟩ := step i hi hh
        rw [if_pos (by omega), getI_nat, h1]
        simp only [Option.bind_some, h3]
        rw [if_pos h4, if_pos h6, w64 (by omega), ← h5]
        exact .inl ⟨hh, _, rfl, by simp⟩
      · obtain rfl : i = l.length := by omega
        rw [if_neg (by omega), List.take_length]
        exact .inr ⟨_, rfl, rfl⟩) (s := ([], 0)) (by simp [slotsL])
    exact h1
theorem slotFault_ok {s : SSlot} (h : SlotOk s) : impl_SlotFault s = 0 := by
  obtain ⟨h1, h2, h3, h4⟩ := h
  unfold impl_SlotFault
  simp only [impl_SlotFault_u1, impl_inRange_eq, impl_codeIf_eq]
  rw [w64 (by omega)]
  have a1 : 1 ≤ s.Total ∧ s.Total ≤ 1024 := h1
  simp [a1, h2, h3, h4]
theorem encodeSlots_ok {ls : List SSlot} (hl : ls.length ≤ 400) (h : ∀ s ∈ ls, SlotOk s) : impl_EncodeSlots ls = some ⟨0, encBytes ls⟩ := by
  unfold impl_EncodeSlots
  simp only [decide_eq_true_eq]
  rw [if_neg (by omega)]
  obtain ⟨t, h1, rfl⟩ := loop_rule (step := impl_EncodeSlots_s1 ls (ls.length : Int)) (fun i s => s = (i : Int)) (fun t => t = .inl ()) ls.length (by
    rintro i s hi rfl
    simp only [impl_EncodeSlots_s1, decide_eq_true_eq]
    rcases Nat.lt_or_ge i ls.length with hh | hh
    · obtain ⟨v, hv, hm⟩ := get_lt hh
      rw [if_pos (by omega), getI_nat, hv]
      simp only [Option.bind_some, slotFault_ok (h v hm)]
      rw [if_neg (by decide), w64 (by omega)]
      exact .inl ⟨hh, _, rfl, by simp⟩
    · obtain rfl : i = ls.length := by omega
      rw [if_neg (by omega)]
      exact .inr ⟨_, rfl, rfl⟩) (s := 0) rfl
  rw [h1]
  obtain ⟨q1, q2, _⟩ := encode_same h (by omega)
  simp [q2]
theorem encodeValues_ok {l : List Int} (hl : l.length ≤ 64) (h : ∀ x ∈ l, -65535 ≤ x ∧ x ≤ 65535) : impl_EncodeValues l = some ⟨0, encBytes (slotsL l)⟩ ∧ spec_l4Encode l = some (encBytes (slotsL l)) := by
  obtain ⟨h1, h2⟩ := values_loops hl h
  obtain ⟨g1, g2⟩ := slotsL_ok h
  obtain ⟨q1, q2, _⟩ := encode_same g2 (by omega)
  constructor
  · unfold impl_EncodeValues
    simp only [decide_eq_true_eq]
    rw [if_neg (by omega), h2]
    simp [encodeSlots_ok (by omega) g2]
  · unfold spec_l4Encode
    rw [h1]
    simp [q1]
theorem encodeValues_bad : ∀ {l : List Int}, l.length ≤ 64 → (∃ x ∈ l, ¬ (-65535 ≤ x ∧ x ≤ 65535)) → (∀ x ∈ l, -65536 ≤ x ∧ x ≤ 65535) → impl_EncodeValues l = some ⟨3, []⟩ := by
  intro l hl hbad hx
  unfold impl_EncodeValues
  simp only [decide_eq_true_eq]
  rw [if_neg (by omega)]
  obtain ⟨t, h1, rfl⟩ := loop_rule (step := impl_EncodeValues_s1 l (l.length : Int)) (fun i s => (∀ j v, j < i → l[j]? = some v → -65535 ≤ v ∧ v ≤ 65535) ∧ s = (slotsL (l.take i), (i : Int))) (fun t => t = .inr ()) l.length (by
    rintro i s hi ⟨hj, rfl⟩
    simp only [impl_EncodeValues_s1, decide_eq_true_eq]
    rcases Nat.lt_or_ge i l.length with hh | hh
    · obtain ⟨v, hv, hm⟩ := get_lt hh
      rw [if_pos (by omega), getI_nat, hv]
      simp only [Option.bind_some]
      have hv2 := hx v hm
      have ev : impl_isValue v = decide (-65535 ≤ v ∧ v ≤ 65535) := by
        simp only [impl_isValue, impl_within, impl_inRange_eq]
        rw [w64 (by omega)]
        rfl
      rw [ev]
      by_cases hc : -65535 ≤ v ∧ v ≤ 65535
      · rw [if_pos (by simpa using hc)]
        obtain ⟨s, q1, q2, q3, q4⟩ := slots_same (v := v) hc
        obtain ⟨g1, _⟩ := slotsL_ok (l := l.take i) fun x hx => by
          obtain ⟨j, hj'⟩ := List.getElem?_of_mem hx
          have hji : j < i := by have := (List.getElem?_eq_some_iff.1 hj').1; rw [List.length_take] at this; omega
          rw [List.getElem?_take_of_lt hji] at hj'
          exact hj j x hji hj'
        rw [List.length_take] at g1
        rw [q2]
        simp only [Option.bind_some]
        rw [if_pos (okApp_of (by rw [List.length_append]; omega)), w64 (by omega)]
        refine .inl ⟨hh, _, rfl, fun j u hj' hu => ?_, ?_⟩
        · rcases Nat.lt_or_ge j i with hji | hji
          · exact hj j u hji hu
          · obtain rfl : j = i := by omega
            rw [hv] at hu; obtain rfl := Option.some.inj hu; exact hc
        · rw [List.take_add_one, hv]
          simp only [Option.toList_some]
          rw [slotsL_append]; simp [slotsL, q1]
      · rw [if_neg (by simpa using hc)]
        exact .inr ⟨_, rfl, rfl⟩
    · obtain rfl : i = l.length := by omega
      exfalso
      obtain ⟨x, hm, hn⟩ := hbad
      obtain ⟨j, hj'⟩ := List.getElem?_of_mem hm
      exact hn (hj j x (List.getElem?_eq_some_iff.1 hj').1 hj')) (s := ([], 0)) ⟨fun j v hj => by omega, by simp [slotsL]⟩
  rw [h1]
  rfl
theorem all_eq {l : List Int} (hl : l.length ≤ 64) : spec_l1All l (-65535) 65535 = some (decide (∀ x ∈ l, -65535 ≤ x ∧ x ≤ 65535)) := by
  unfold spec_l1All
  obtain ⟨t, h1, h2⟩ := loop_rule (step := spec_l1All_s1 l (-65535) 65535) (fun i s => (∀ j v, j < i → l[j]? = some v → -65535 ≤ v ∧ v ≤ 65535) ∧ s = (i : Int)) (fun t => (t = .inl () ∧ ∀ x ∈ l, -65535 ≤ x ∧ x ≤ 65535) ∨ (t = .inr () ∧ ¬ ∀ x ∈ l, -65535 ≤ x ∧ x ≤ 65535)) l.length (by
    rintro i s hi ⟨hj, rfl⟩
    simp only [spec_l1All_s1, decide_eq_true_eq, spec_l1In_eq]
    rcases Nat.lt_or_ge i l.length with hh | hh
    · obtain ⟨v, hv, hm⟩ := get_lt hh
      rw [if_pos (by omega), getI_nat, hv]
      simp only [Option.bind_some]
      by_cases hc : -65535 ≤ v ∧ v ≤ 65535
      · rw [if_pos hc, w64 (by omega)]
        refine .inl ⟨hh, _, rfl, fun j u hj' hu => ?_, by simp⟩
        rcases Nat.lt_or_ge j i with hji | hji
        · exact hj j u hji hu
        · obtain rfl : j = i := by omega
          rw [hv] at hu; obtain rfl := Option.some.inj hu; exact hc
      · rw [if_neg hc]
        exact .inr ⟨_, rfl, .inr ⟨rfl, fun h => hc (h v hm)⟩⟩
    · obtain rfl : i = l.length := by omega
      rw [if_neg (by omega)]
      refine .inr ⟨_, rfl, .inl ⟨rfl, fun x hm => ?_⟩⟩
      obtain ⟨j, hj'⟩ := List.getElem?_of_mem hm
      exact hj j x (List.getElem?_eq_some_iff.1 hj').1 hj') (s := 0) ⟨fun j v hj => by omega, rfl⟩
  rw [h1]
  rcases h2 with ⟨rfl, h⟩ | ⟨rfl, h⟩
  · rw [decide_eq_true h]; rfl
  · rw [decide_eq_false h]; rfl
theorem beq_bytes' {a b : List Int} (ha : ∀ x ∈ a, 0 ≤ x ∧ x ≤ 255) (hb : ∀ x ∈ b, 0 ≤ x ∧ x ≤ 255) : ((a.map fun n => UInt8.ofNat n.toNat) == (b.map fun n => UInt8.ofNat n.toNat)) = decide (a = b) := by
  rw [Bool.eq_iff_iff, beq_iff_eq, decide_eq_true_eq]
  exact ⟨fun h => bytes_inj ha hb h, fun h => by rw [h]⟩
theorem xor_lt64 {a b : Int} (h0 : 0 ≤ a ∧ a < 65536) (h1 : 0 ≤ b ∧ b < 65536) : (BitVec.ofInt 64 a ^^^ BitVec.ofInt 64 b).toNat < 65536 := xor_lt h0 h1
theorem crcBit_same {d : List Int} {n x k : Int} {a50 : List Int} {a51 a52 : Int} (hn : 0 ≤ n ∧ n < 65536) (hx : 0 ≤ x ∧ x ≤ 255) (hk : 0 ≤ k ∧ k ≤ 7) {i : Int} (hi : getI d i = some x) :
    impl_crcOf_u9 n x k a50 a51 a52 = spec_l2Crc_u9 d n i k ∧ ∃ r, spec_l2Crc_u9 d n i k = some r ∧ 0 ≤ r ∧ r < 65536 := by
  have hku : IntKind.u64.wrap k = k := wu64 (by omega)
  obtain ⟨kn, rfl⟩ : ∃ m : Nat, k = m := ⟨k.toNat, by omega⟩
  unfold impl_crcOf_u9 spec_l2Crc_u9
  rw [hi, if_neg (by omega), hku]
  simp only [Option.bind_some]
  rw [if_neg (by omega)]
  have e1 : IntKind.i64.wrap ((BitVec.ofInt 64 (IntKind.i64.wrap (n * 2 ^ min 1 64)) &&& BitVec.ofInt 64 65535).toNat) = (IntKind.i64.wrap (n * 2)).tmod 65536 := by
    have : (n * 2 ^ min 1 64 : Int) = n * 2 := by rw [show min 1 64 = 1 from rfl]; omega
    rw [this, w64 (n := n * 2) (by omega)]
    have := and_mask (w := 64) (a := n * 2) (m := 16) (by omega) (by omega) (by omega) (by omega)
    have e16 : ((2 : Int) ^ 16 - 1) = 65535 := by decide
    rw [e16] at this
    have h2 : (BitVec.ofInt 64 (n * 2) &&& BitVec.ofInt 64 65535).toNat = (n * 2).toNat % 65536 := this
    rw [h2, Int.tmod_eq_emod_of_nonneg (by omega), w64 (by omega)]
    omega
  have e2 : (n.fdiv (2 ^ min 15 64)) = IntKind.i64.wrap ((BitVec.ofInt 64 (n.fdiv (2 ^ min 15 64)) &&& BitVec.ofInt 64 1).toNat) := by
    have hm : min 15 64 = 15 := by decide
    rw [hm, fdiv_pow hn.1]
    have h15 : n.toNat / 2 ^ 15 < 2 := by omega
    have := and_one (w := 64) (a := ((n.toNat / 2 ^ 15 : Nat) : Int)) (by omega) (by omega) (by omega)
    have h2 : (BitVec.ofInt 64 ((n.toNat / 2 ^ 15 : Nat) : Int) &&& BitVec.ofInt 64 1).toNat = (n.toNat / 2 ^ 15) % 2 := by rw [Int.toNat_natCast] at this; exact this
    rw [h2, w64 (by omega)]
    omega
  have e3 : IntKind.i64.wrap (IntKind.u8.wrap ((BitVec.ofInt 8 (x.fdiv (2 ^ min (kn : Int).toNat 8)) &&& BitVec.ofInt 8 1).toNat)) = IntKind.i64.wrap ((BitVec.ofInt 64 ((IntKind.i64.wrap x).fdiv (2 ^ min (kn : Int).toNat 64)) &&& BitVec.ofInt 64 1).toNat) := by
    have m1 : min (kn : Int).toNat 8 = kn := by simp; omega
    have m2 : min (kn : Int).toNat 64 = kn := by simp; omega
    rw [m1, m2, w64 (n := x) (by omega), fdiv_pow hx.1]
    have hq : x.toNat / 2 ^ kn ≤ 255 := Nat.le_trans (Nat.div_le_self _ _) (by omega)
    generalize x.toNat / 2 ^ kn = q at hq ⊢
    have q1 := and_one (w := 8) (a := (q : Int)) (by omega) (by omega) (by omega)
    have q2 := and_one (w := 64) (a := (q : Int)) (by omega) (by omega) (by omega)
    have r1 : (BitVec.ofInt 8 (q : Int) &&& BitVec.ofInt 8 1).toNat = q % 2 := by rw [Int.toNat_natCast] at q1; exact q1
    have r2 : (BitVec.ofInt 64 (q : Int) &&& BitVec.ofInt 64 1).toNat = q % 2 := by rw [Int.toNat_natCast] at q2; exact q2
    rw [r1, r2, wu8 (by omega)]
  have e4 : 0 ≤ (IntKind.i64.wrap (n * 2)).tmod 65536 ∧ (IntKind.i64.wrap (n * 2)).tmod 65536 < 65536 := by
    rw [w64 (by omega), Int.tmod_eq_emod_of_nonneg (by omega)]; omega
  rw [e1, e3, ← e2]
  generalize (IntKind.i64.wrap (n * 2)).tmod 65536 = m at e4
  refine ⟨by rw [bne_comm]; rfl, ?_⟩
  unfold spec_l2Crc_u8
  have hx := xor_lt64 (a := m) (b := 4129) e4 (by omega)
  split
  · exact ⟨_, rfl, by rw [w64 (by omega)]; omega, by rw [w64 (by omega)]; omega⟩
  · exact ⟨_, rfl, e4.1, e4.2⟩
theorem crc_same {d : List Int} (hd : ∀ x ∈ d, 0 ≤ x ∧ x ≤ 255) (hl : (d.length : Int) ≤ maxI) : ∃ n, spec_l2Crc d = some n ∧ impl_crcOf d = some n ∧ 0 ≤ n ∧ n < 65536 := by
  unfold maxI at hl
  unfold spec_l2Crc impl_crcOf
  obtain ⟨t, h1, h2, h3⟩ := loop_same (step1 := impl_crcOf_s11 d (d.length : Int)) (step2 := spec_l2Crc_s11 d) (fun i s => s.2 = (i : Int) ∧ 0 ≤ s.1 ∧ s.1 < 65536) (fun t => 0 ≤ t ∧ t < 65536) d.length (by
    rintro i ⟨n, j⟩ hi ⟨hj, hn0, hn1⟩
    simp only at hj hn0 hn1
    subst hj
    simp only [impl_crcOf_s11, spec_l2Crc_s11, decide_eq_true_eq]
    rcases Nat.lt_or_ge i d.length with h | h
    · obtain ⟨x, hx, hm⟩ := get_lt h
      rw [if_pos (by omega), if_pos (by omega), getI_nat, hx, w64 (by omega)]
      simp only [Option.bind_some]
      obtain ⟨t, q1, q2, q3⟩ := loop_same (step1 := impl_crcOf_s10 x d (d.length : Int) (i : Int)) (step2 := spec_l2Crc_s10 d (i : Int)) (fun k s => s.2 = 7 - (k : Int) ∧ 0 ≤ s.1 ∧ s.1 < 65536) (fun t => 0 ≤ t ∧ t < 65536) 8 (by
        rintro k ⟨m, z⟩ hk ⟨hz, hm0, hm1⟩
        simp only at hz hm0 hm1
        subst hz
        simp only [impl_crcOf_s10, spec_l2Crc_s10, decide_eq_true_eq]
        rcases Nat.lt_or_ge k 8 with hh | hh
        · rw [if_pos (by omega), if_pos (by omega)]
          obtain ⟨e, r, er, r0, r1⟩ := crcBit_same (d := d) (n := m) (x := x) (k := 7 - (k : Int)) (a50 := d) (a51 := (d.length : Int)) (a52 := (i : Int)) ⟨hm0, hm1⟩ (hd x hm) (by omega) (i := (i : Int)) (by rw [getI_nat]; exact hx)
          rw [e, er]
          exact ⟨rfl, .inl ⟨hh, _, rfl, by simp only []; rw [w64 (by omega)]; omega, r0, r1⟩⟩
        · rw [if_neg (by omega), if_neg (by omega)]
          exact ⟨rfl, .inr ⟨_, rfl, hm0, hm1⟩⟩) (s := (n, 7)) ⟨by simp, hn0, hn1⟩
      rw [q1, q2]
      exact ⟨rfl, .inl ⟨h, _, rfl, by simp, q3.1, q3.2⟩⟩
    · rw [if_neg (by omega), if_neg (by omega)]
      exact ⟨rfl, .inr ⟨_, rfl, hn0, hn1⟩⟩) (s := (65535, 0)) ⟨by simp, by simp, by simp⟩
  rw [h1, h2]
  exact ⟨t, rfl, rfl, h3.1, h3.2⟩
theorem u8_mod {n : Int} : IntKind.u8.wrap n = n % 256 := by simp [IntKind.wrap, IntKind.bits, IntKind.signed]
theorem beq_bytes {a b : List Int} (ha : ∀ x ∈ a, 0 ≤ x ∧ x ≤ 255) (hb : ∀ x ∈ b, 0 ≤ x ∧ x ≤ 255) : ((a.map fun n => UInt8.ofNat n.toNat) == (b.map fun n => UInt8.ofNat n.toNat)) = decide (a = b) := by
  rw [Bool.eq_iff_iff, beq_iff_eq, decide_eq_true_eq]
  exact ⟨fun h => bytes_inj ha hb h, fun h => by rw [h]⟩
theorem subI_eq {α : Type} {xs : List α} {l h : Nat} (h1 : l ≤ h) (h2 : h ≤ xs.length) : subI xs (l : Int) (h : Int) = some ((xs.drop l).take (h - l)) := by
  unfold subI cutI
  rw [if_pos ⟨by omega, by omega⟩, if_pos ⟨by omega, by omega⟩]
  simp
theorem copy8 {l : List Int} (h : (l.length : Int) ≤ 1000000) : spec_l1Copy l = some l := by
  unfold spec_l1Copy; rw [if_pos (okApp_of (by omega))]
theorem clone8 {l : List Int} (h : (l.length : Int) ≤ 1000000) : slices_Clone_byte l = some l := by
  unfold slices_Clone_byte; rw [if_pos (okApp_of (by omega))]
theorem seal_spec {d : List Int} {n : Int} (h : spec_l2Crc d = some n) (hn : 0 ≤ n ∧ n < 65536) (hl : (d.length : Int) ≤ 1000000) : spec_l2Seal d = some (d ++ [n / 256, n % 256]) := by
  unfold spec_l2Seal
  rw [h]
  simp only [Option.bind_some]
  rw [copy8 hl]
  simp only [Option.bind_some]
  rw [if_pos (okApp_of (by simp; omega))]
  have e1 : n.tdiv 256 = n / 256 := Int.tdiv_eq_ediv_of_nonneg hn.1
  have e2 : n.tmod 256 = n % 256 := Int.tmod_eq_emod_of_nonneg hn.1
  rw [e1, e2, w64 (by omega), wu8 (by omega), wu8 (by omega)]
theorem two_bytes {n : Int} (hn : 0 ≤ n ∧ n < 65536) : impl_twoBytes n = [n / 256, n % 256] := by
  unfold impl_twoBytes
  rw [fdiv_pow hn.1, u8_mod, u8_mod]
  have : min 8 64 = 8 := by decide
  rw [this]
  have : ((n.toNat / 2 ^ 8 : Nat) : Int) = n / 256 := by omega
  rw [this]
  congr 1
  omega
theorem split_two {d : List Int} (h : 2 ≤ d.length) : ∃ e x y, d = e ++ [x, y] ∧ e.length = d.length - 2 := by
  have hl : (d.drop (d.length - 2)).length = 2 := by simp; omega
  obtain ⟨x, l1, e1⟩ := List.exists_cons_of_ne_nil (l := d.drop (d.length - 2)) (by intro e; rw [e] at hl; simp at hl)
  rw [e1] at hl
  obtain ⟨y, l2, rfl⟩ := List.exists_cons_of_ne_nil (l := l1) (by rintro rfl; simp at hl)
  obtain rfl : l2 = [] := List.eq_nil_of_length_eq_zero (by simpa using hl)
  exact ⟨d.take (d.length - 2), x, y, by rw [← e1, List.take_append_drop], by simp⟩
/-- What is opened. -/
noncomputable def openR (d : List Int) : SBytesResult := if 2 ≤ d.length ∧ d.length ≤ 160 then (match spec_l2Crc (d.take (d.length - 2)) with
  | some n => if d.drop (d.length - 2) = [n / 256, n % 256] then ⟨0, d.take (d.length - 2)⟩ else ⟨10, []⟩
  | none => ⟨10, []⟩) else ⟨2, []⟩
theorem open_same {d : List Int} (hd : ∀ x ∈ d, 0 ≤ x ∧ x ≤ 255) : spec_OpenBytes d = some (openR d) ∧ impl_OpenBytes d = some (openR d) := by
  unfold spec_OpenBytes impl_OpenBytes openR
  simp only [impl_inRange_eq, spec_OpenBytes_u1, decide_eq_true_eq]
  by_cases h : 2 ≤ d.length ∧ d.length ≤ 160
  · obtain ⟨e, x, y, rfl, he⟩ := split_two h.1
    have hel : e.length = (e ++ [x, y]).length - 2 := he
    have hen : (e ++ [x, y]).length = e.length + 2 := by simp
    have hde : ∀ z ∈ e, 0 ≤ z ∧ z ≤ 255 := fun z hz => hd z (by simp [hz])
    have hx := hd x (by simp)
    have hy := hd y (by simp)
    obtain ⟨n, c1, c2, c3, c4⟩ := crc_same hde (by unfold maxI; omega)
    have ht : (e ++ [x, y]).take ((e ++ [x, y]).length - 2) = e := by rw [← hel]; simp
    have hdr : (e ++ [x, y]).drop ((e ++ [x, y]).length - 2) = [x, y] := by rw [← hel]; simp
    have w1 : IntKind.i64.wrap (((e ++ [x, y]).length : Int) - 2) = ((e.length : Nat) : Int) := by rw [w64 (by omega)]; omega
    have s1 : subI (e ++ [x, y]) 0 ((e.length : Nat) : Int) = some e := by
      have := subI_eq (xs := e ++ [x, y]) (l := 0) (h := e.length) (by omega) (by omega)
      simpa using this
    have s2 : subI (e ++ [x, y]) ((e.length : Nat) : Int) ((e ++ [x, y]).length : Int) = some [x, y] := by
      have := subI_eq (xs := e ++ [x, y]) (l := e.length) (h := (e ++ [x, y]).length) (by omega) (by omega)
      rw [this]
      congr 1
      simp
    have hnb : ∀ z ∈ [n / 256, n % 256], 0 ≤ z ∧ z ≤ 255 := by
      intro z hz
      simp at hz
      rcases hz with rfl | rfl <;> omega
    have hxy : ∀ z ∈ [x, y], 0 ≤ z ∧ z ≤ 255 := by
      intro z hz
      simp at hz
      rcases hz with rfl | rfl <;> assumption
    have hs : ∀ z ∈ e ++ [n / 256, n % 256], 0 ≤ z ∧ z ≤ 255 := by
      intro z hz
      rcases List.mem_append.1 hz with hz | hz
      · exact hde z hz
      · exact hnb z hz
    have f1 : ¬ (((e ++ [x, y]).length : Int) < 2) := by omega
    have f2 : decide (((e ++ [x, y]).length : Int) > 160) = false := decide_eq_false (by omega)
    have f3 : (2 : Int) ≤ ((e ++ [x, y]).length : Int) ∧ ((e ++ [x, y]).length : Int) ≤ 160 := by omega
    have f4 : (e ++ [n / 256, n % 256] = e ++ [x, y]) ↔ ([x, y] = [n / 256, n % 256]) := by
      rw [List.append_cancel_left_eq]; exact eq_comm
    simp only [f1, f2, if_false, Bool.false_eq_true, w1, s1, s2, Option.bind_some, bytesI_eq, seal_spec c1 ⟨c3, c4⟩ (by omega), beq_bytes hs hd, f4, copy8 (l := e) (by omega), clone8 (l := e) (by omega), if_pos f3, c1, c2, bytes_Equal, two_bytes ⟨c3, c4⟩, beq_bytes hxy hnb, if_pos h, ht, hdr, decide_eq_true_eq]
    by_cases hq : [x, y] = [n / 256, n % 256]
    · simp only [hq, if_true, and_self]
    · simp only [hq, if_false, and_self]
  · have h' : ¬ (2 ≤ (d.length : Int) ∧ (d.length : Int) ≤ 160) := by omega
    simp only [if_neg h, if_neg h', and_true]
    by_cases h2 : (d.length : Int) < 2
    · simp [h2]
    · have h3 : (d.length : Int) > 160 := by omega
      simp [h2, h3]
theorem openR_ok {d : List Int} (hd : ∀ x ∈ d, 0 ≤ x ∧ x ≤ 255) : (∀ x ∈ (openR d).Bytes, 0 ≤ x ∧ x ≤ 255) ∧ (openR d).Bytes.length ≤ 158 := by
  have nil : ∀ c : Int, (∀ x ∈ (SBytesResult.mk c []).Bytes, 0 ≤ x ∧ x ≤ 255) ∧ (SBytesResult.mk c []).Bytes.length ≤ 158 := fun c => by simp
  unfold openR
  split
  · rename_i h
    split
    · split
      · exact ⟨fun x hx => hd x (List.mem_of_mem_take hx), by simp; omega⟩
      · exact nil _
    · exact nil _
  · exact nil _
theorem byteFacts : ∀ b : Fin 256, IntKind.i64.wrap ((BitVec.ofInt 64 (b.val : Int) &&& BitVec.ofInt 64 1).toNat) = (b.val : Int).tmod 2 ∧
    IntKind.i64.wrap ((BitVec.ofInt 64 ((b.val : Int).fdiv (2 ^ (min 2 64))) &&& BitVec.ofInt 64 3).toNat) = (IntKind.i64.wrap ((b.val : Int).tdiv 4)).tmod 4 ∧
    IntKind.i64.wrap ((BitVec.ofInt 64 ((b.val : Int).fdiv (2 ^ (min 4 64))) &&& BitVec.ofInt 64 3).toNat) = (IntKind.i64.wrap ((b.val : Int).tdiv 16)).tmod 4 ∧
    decide (IntKind.i64.wrap ((BitVec.ofInt 64 (b.val : Int) &&& BitVec.ofInt 64 2).toNat) > 0) = ((IntKind.i64.wrap ((b.val : Int).tdiv 2)).tmod 2 == 1) ∧
    IntKind.i64.wrap ((b.val : Int).tdiv 64) = (b.val : Int).fdiv (2 ^ (min 6 64)) ∧ 0 ≤ (b.val : Int).fdiv (2 ^ (min 6 64)) ∧ (b.val : Int).fdiv (2 ^ (min 6 64)) ≤ 3 := by decide +kernel
theorem or_bytes {a b : Int} (ha : 0 ≤ a ∧ a ≤ 255) (hb : 0 ≤ b ∧ b ≤ 255) : IntKind.i64.wrap ((BitVec.ofInt 64 (IntKind.i64.wrap (a * 2 ^ (min 8 64))) ||| BitVec.ofInt 64 b).toNat) = a * 256 + b := by
  obtain ⟨n, rfl⟩ : ∃ n : Nat, a = n := ⟨a.toNat, by omega⟩
  obtain ⟨m, rfl⟩ : ∃ m : Nat, b = m := ⟨b.toNat, by omega⟩
  have h8 : min 8 64 = 8 := by decide
  have e : ((n : Int) * 2 ^ 8) = ((2 ^ 8 * n : Nat) : Int) := by omega
  rw [h8, e, w64 (n := ((2 ^ 8 * n : Nat) : Int)) (by omega), BitVec.toNat_or]
  simp only [BitVec.ofInt_natCast, BitVec.toNat_ofNat, IntKind.bits]
  rw [Nat.mod_eq_of_lt (by omega), Nat.mod_eq_of_lt (by omega), ← Nat.two_pow_add_eq_or_of_lt (by omega), w64 (by omega)]
  omega
theorem head_same {d : List Int} (hd : ∀ x ∈ d, 0 ≤ x ∧ x ≤ 255) : ∃ r, spec_ReadHead d = some r ∧ impl_ReadHead d = some r ∧ (r.Code = 0 → (0 ≤ r.Head.Side ∧ r.Head.Side ≤ 1) ∧ (0 ≤ r.Head.Number ∧ r.Head.Number ≤ 9999)) := by
  unfold spec_ReadHead impl_ReadHead
  obtain ⟨o1, o2⟩ := open_same hd
  obtain ⟨b1, b2⟩ := openR_ok hd
  rw [o1, o2]
  simp only [Option.bind_some]
  by_cases hc : ((openR d).Code != 0) = true
  · simp only [hc, if_true]
    exact ⟨_, rfl, rfl, fun h => absurd (show (openR d).Code = 0 from h) (by simpa using hc)⟩
  · simp only [hc, Bool.false_eq_true, if_false]
    generalize (openR d).Bytes = l at b1 b2
    unfold impl_readHead
    simp only [decide_eq_true_eq]
    by_cases h3 : (l.length : Int) < 3
    · simp only [h3, if_true, Option.bind_some, Bool.false_eq_true, if_false]
      exact ⟨_, rfl, rfl, fun h => by simp at h⟩
    · simp only [h3, if_false]
      obtain ⟨x0, e0, m0⟩ := get_lt (l := l) (i := 0) (by omega)
      obtain ⟨x1, e1, m1⟩ := get_lt (l := l) (i := 1) (by omega)
      obtain ⟨x2, e2, m2⟩ := get_lt (l := l) (i := 2) (by omega)
      have g0 : getI l 0 = some x0 := by rw [← e0]; exact getI_nat (i := 0)
      have g1 : getI l 1 = some x1 := by rw [← e1]; exact getI_nat (i := 1)
      have g2 : getI l 2 = some x2 := by rw [← e2]; exact getI_nat (i := 2)
      have t0 : l[(0 : Int).toNat]? = some x0 := e0
      have t1 : l[(1 : Int).toNat]? = some x1 := e1
      have t2 : l[(2 : Int).toNat]? = some x2 := e2
      have r0 := b1 x0 m0
      have r1 := b1 x1 m1
      have r2 := b1 x2 m2
      obtain ⟨f1, f2, f3, f4, f5, f6, f7⟩ := byteFacts ⟨x2.toNat, by omega⟩
      have ex : ((x2.toNat : Nat) : Int) = x2 := by omega
      simp only [ex] at f1 f2 f3 f4 f5 f6 f7
      have w0 : IntKind.i64.wrap x0 = x0 := w64 (by omega)
      have w1 : IntKind.i64.wrap x1 = x1 := w64 (by omega)
      have w2 : IntKind.i64.wrap x2 = x2 := w64 (by omega)
      have wn : IntKind.i64.wrap (IntKind.i64.wrap (x0 * 256) + x1) = x0 * 256 + x1 := by rw [w64 (n := x0 * 256) (by omega), w64 (by omega)]
      simp only [g0, g1, g2, t0, t1, t2, Option.bind_some, w0, w1, w2, wn, or_bytes r0 r1, f1, f2, f3, f4, f5]
      rw [if_neg (show ¬ x2.fdiv (2 ^ (min 6 64)) < 0 by omega)]
      generalize hq : x2.fdiv (2 ^ (min 6 64)) = q at f6 f7
      have hsz : q < 3 → IntKind.i64.wrap (4 * 2 ^ (min q.toNat 64)) = spec_ReadHead_u2 (x0 * 256 + x1) (x2.tmod 2) ((IntKind.i64.wrap (x2.tdiv 4)).tmod 4) ((IntKind.i64.wrap (x2.tdiv 16)).tmod 4) ((IntKind.i64.wrap (x2.tdiv 2)).tmod 2 == 1) q := by
        intro h
        have : q = 0 ∨ q = 1 ∨ q = 2 := by omega
        rcases this with rfl | rfl | rfl <;> simp only [spec_ReadHead_u2, spec_ReadHead_u1] <;> decide
      have hside : 0 ≤ x2.tmod 2 ∧ x2.tmod 2 ≤ 1 := by rw [Int.tmod_eq_emod_of_nonneg r2.1]; omega
      have hu3 : spec_ReadHead_u3 (x0 * 256 + x1) (spec_ReadHead_u2 (x0 * 256 + x1) (x2.tmod 2) ((IntKind.i64.wrap (x2.tdiv 4)).tmod 4) ((IntKind.i64.wrap (x2.tdiv 16)).tmod 4) ((IntKind.i64.wrap (x2.tdiv 2)).tmod 2 == 1) q) (x2.tmod 2) ((IntKind.i64.wrap (x2.tdiv 4)).tmod 4) ((IntKind.i64.wrap (x2.tdiv 16)).tmod 4) ((IntKind.i64.wrap (x2.tdiv 2)).tmod 2 == 1) =
          !(impl_readHead_u1 (x0 * 256 + x1) (IntKind.i64.wrap (4 * 2 ^ (min q.toNat 64))) (x2.tmod 2) ((IntKind.i64.wrap (x2.tdiv 4)).tmod 4) ((IntKind.i64.wrap (x2.tdiv 16)).tmod 4) ((IntKind.i64.wrap (x2.tdiv 2)).tmod 2 == 1) x2) := by
        have hsp : 0 ≤ (IntKind.i64.wrap (x2.tdiv 4)).tmod 4 := by
          have : 0 ≤ x2.tdiv 4 ∧ x2.tdiv 4 ≤ 255 := by rw [Int.tdiv_eq_ediv_of_nonneg r2.1]; omega
          rw [w64 (by omega), Int.tmod_eq_emod_of_nonneg this.1]; omega
        generalize (IntKind.i64.wrap (x2.tdiv 4)).tmod 4 = sp at hsp
        simp only [spec_ReadHead_u3, impl_readHead_u1, impl_isNumber, impl_isSpread, impl_inRange_eq, decide_eq_true_eq, hq]
        by_cases k1 : x0 * 256 + x1 > 9999
        · rw [if_pos k1, if_neg (show ¬ (0 ≤ x0 * 256 + x1 ∧ x0 * 256 + x1 ≤ 9999) by omega)]; rfl
        · rw [if_neg k1, if_pos (show 0 ≤ x0 * 256 + x1 ∧ x0 * 256 + x1 ≤ 9999 by omega)]
          by_cases k2 : sp > 2
          · rw [if_pos k2, if_neg (show ¬ (0 ≤ sp ∧ sp ≤ 2) by omega)]; rfl
          · rw [if_neg k2, if_pos (show 0 ≤ sp ∧ sp ≤ 2 by omega)]
            have : q = 0 ∨ q = 1 ∨ q = 2 ∨ q = 3 := by omega
            rcases this with rfl | rfl | rfl | rfl <;> simp only [spec_ReadHead_u2, spec_ReadHead_u1] <;> decide
      rw [hu3]
      cases hk : impl_readHead_u1 (x0 * 256 + x1) (IntKind.i64.wrap (4 * 2 ^ (min q.toNat 64))) (x2.tmod 2) ((IntKind.i64.wrap (x2.tdiv 4)).tmod 4) ((IntKind.i64.wrap (x2.tdiv 16)).tmod 4) ((IntKind.i64.wrap (x2.tdiv 2)).tmod 2 == 1) x2 with
      | false =>
        simp only [Bool.not_false, if_true, Bool.false_eq_true, if_false]
        exact ⟨_, rfl, rfl, fun h => by simp at h⟩
      | true =>
        simp only [impl_readHead_u1, impl_isNumber, impl_inRange_eq, decide_eq_true_eq, hq] at hk
        split at hk
        · rename_i hnum
          split at hk
          · rw [← hsz (by simpa using hk)]
            simp only [Bool.not_true, Bool.false_eq_true, if_false, if_true]
            exact ⟨_, rfl, rfl, fun _ => ⟨hside, hnum⟩⟩
          · simp at hk
        · simp at hk
theorem pow_le : ∀ e : Nat, e ≤ 30 → 1 ≤ (2 : Int) ^ e ∧ (2 : Int) ^ e ≤ 1073741824 := by
  intro e he
  have : ∀ e : Fin 31, 1 ≤ (2 : Int) ^ e.val ∧ (2 : Int) ^ e.val ≤ 1073741824 := by decide
  exact this ⟨e, by omega⟩
theorem pow_le24 : ∀ e : Nat, e ≤ 24 → 1 ≤ (2 : Int) ^ e ∧ (2 : Int) ^ e ≤ 16777216 := by
  intro e he
  have : ∀ e : Fin 25, 1 ≤ (2 : Int) ^ e.val ∧ (2 : Int) ^ e.val ≤ 16777216 := by decide
  exact this ⟨e, by omega⟩
theorem pow_le22 : ∀ e : Nat, e ≤ 22 → 1 ≤ (2 : Int) ^ e ∧ (2 : Int) ^ e ≤ 4194304 := by
  intro e he
  have : ∀ e : Fin 23, 1 ≤ (2 : Int) ^ e.val ∧ (2 : Int) ^ e.val ≤ 4194304 := by decide
  exact this ⟨e, by omega⟩
theorem l4Two_eq {n : Nat} (h : n ≤ 30) : spec_l4Two (n : Int) = some ((2 : Int) ^ n) := by
  unfold spec_l4Two
  obtain ⟨t, h1, rfl⟩ := loop_rule (step := spec_l4Two_s1) (fun i s => s = ((n : Int) - (i : Int), (2 : Int) ^ i)) (fun t => t = (2 : Int) ^ n) n (by
    rintro i s hi rfl
    simp only [spec_l4Two_s1, decide_eq_true_eq]
    rcases Nat.lt_or_ge i n with h' | h'
    · left
      have := pow_le i (by omega)
      rw [if_pos (by omega), w64 (n := (n : Int) - i - 1) (by omega), w64 (n := (2 : Int) ^ i * 2) (by omega)]
      exact ⟨h', _, rfl, by rw [Int.pow_succ]; simp only [Prod.mk.injEq, and_true]; omega⟩
    · right
      obtain rfl : i = n := by omega
      rw [if_neg (by omega)]
      exact ⟨_, rfl, rfl⟩) (s := ((n : Int), 1)) (by simp)
  rw [h1]; rfl
def stepv (r : Int) : Int := if r = 0 then 1 else if r % 2 = 1 then 2 ^ ((r + 1) / 2).toNat else 3 * 2 ^ (r / 2 - 1).toNat
theorem step_eq {r : Int} (h : 0 ≤ r ∧ r ≤ 47) : spec_l9Step r = some (stepv r) ∧ impl_stepOf r = some (stepv r) ∧ 1 ≤ stepv r ∧ stepv r ≤ 16777216 := by
    unfold spec_l9Step impl_stepOf stepv
    by_cases h0 : r = 0
    · subst h0; exact ⟨rfl, rfl, by decide, by decide⟩
    rw [if_neg h0]
    have e0 : (r == 0) = false := by simp [h0]
    rw [e0]
    simp only [Bool.false_eq_true, if_false]
    rw [Int.tmod_eq_emod_of_nonneg (by omega)]
    by_cases h1 : r % 2 = 1
    · have e1 : (r % 2 == 1) = true := by simp [h1]
      rw [e1, if_pos h1]
      simp only [if_true]
      have e2 : IntKind.i64.wrap ((IntKind.i64.wrap (r + 1)).tdiv 2) = (((r + 1) / 2).toNat : Int) := by
        rw [w64 (n := r + 1) (by omega), Int.tdiv_eq_ediv_of_nonneg (by omega), w64 (by omega)]; omega
      have hb := pow_le24 ((r + 1) / 2).toNat (by omega)
      rw [e2, l4Two_eq (by omega), if_neg (by omega), Int.toNat_natCast, Nat.min_eq_left (by omega), Int.one_mul, w64 (by omega)]
      exact ⟨rfl, rfl, hb.1, hb.2⟩
    · have e1 : (r % 2 == 1) = false := by simp [h1]
      rw [e1, if_neg h1]
      simp only [Bool.false_eq_true, if_false]
      have e2 : IntKind.i64.wrap (IntKind.i64.wrap (r.tdiv 2) - 1) = ((r / 2 - 1).toNat : Int) := by
        rw [Int.tdiv_eq_ediv_of_nonneg (by omega), w64 (n := r / 2) (by omega), w64 (by omega)]; omega
      have hb := pow_le22 (r / 2 - 1).toNat (by omega)
      rw [e2, l4Two_eq (by omega), if_neg (by omega), Int.toNat_natCast, Nat.min_eq_left (by omega)]
      simp only [Option.bind_some]
      rw [w64 (by omega)]
      exact ⟨rfl, rfl, by omega, by omega⟩
def fitsB (r x : Int) : Bool := decide (-16777216 ≤ x * stepv r ∧ x * stepv r ≤ 16777216)
theorem mulS {x s : Int} (hs : 1 ≤ s ∧ s ≤ 16777216) (hx : -65535 ≤ x ∧ x ≤ 65535) : -1099511627776 ≤ x * s ∧ x * s ≤ 1099511627776 := by
  have h1 : x * s ≤ 65535 * s := Int.mul_le_mul_of_nonneg_right hx.2 (by omega)
  have h2 : (-65535) * s ≤ x * s := Int.mul_le_mul_of_nonneg_right hx.1 (by omega)
  omega
theorem fits_same {r x : Int} (hr : 0 ≤ r ∧ r ≤ 47) (hx : -65535 ≤ x ∧ x ≤ 65535) : spec_l14Fits x r = some (fitsB r x) ∧ ∃ v, impl_Restore x r = some ⟨if fitsB r x = true then 0 else 3, v⟩ := by
  obtain ⟨a, b, c, d⟩ := step_eq hr
  have hm := mulS ⟨c, d⟩ hx
  refine ⟨?_, ?_⟩
  · unfold spec_l14Fits spec_l9Coef
    rw [a]
    simp only [Option.bind_some]
    rw [spec_l1In_eq, w64 (by omega)]; rfl
  · unfold impl_Restore impl_Restore_u1 impl_isRung impl_isCoef impl_within
    rw [b]
    simp only [impl_inRange_eq, Option.bind_some]
    rw [w64 (n := 0 - 16777216) (by omega), w64 (n := x * stepv r) (by omega), if_pos (decide_eq_true hr), if_pos (decide_eq_true (by omega))]
    simp only [Option.bind_some]
    unfold fitsB
    by_cases hf : -16777216 ≤ x * stepv r ∧ x * stepv r ≤ 16777216
    · exact ⟨_, by simp [hf]; rfl⟩
    · have : (decide (0 - 16777216 ≤ x * stepv r ∧ x * stepv r ≤ 16777216)) = false := decide_eq_false (by omega)
      rw [this, decide_eq_false hf]
      exact ⟨0, rfl⟩
def badLow (r x : Int) : Bool := !(decide (-30000 ≤ x ∧ x ≤ 30000) && fitsB r x)
def badGain (r x : Int) : Bool := !(decide (0 ≤ x ∧ x ≤ 65535) && fitsB r x)
theorem gain_spec {r x : Int} {l : List Int} {i : Nat} (hr : 0 ≤ r ∧ r ≤ 47) (hx : l[i]? = some x) : spec_l14Gains_u2 l r (i : Int) = some (badGain r x) := by
  unfold spec_l14Gains_u2 badGain
  simp only [getI_nat, hx, Option.bind_some, spec_l1In_eq]
  by_cases h : 0 ≤ x ∧ x ≤ 65535
  · rw [if_pos (decide_eq_true h), (fits_same hr (by omega)).1, decide_eq_true h]; rfl
  · rw [decide_eq_false h]; rfl
def gr (r m : Int) : Int := if r + 2 * m ≤ 47 then r + 2 * m else 47
theorem gr_ok {r m : Int} (hr : 0 ≤ r ∧ r ≤ 47) (hm : 0 ≤ m ∧ m ≤ 3) : spec_l13Rung r m = gr r m ∧ impl_gainRung r m = gr r m ∧ 0 ≤ gr r m ∧ gr r m ≤ 47 := by
  unfold spec_l13Rung impl_gainRung spec_l1Min mnI gr
  rw [w64 (n := 2 * m) (by omega), w64 (n := r + 2 * m) (by omega)]
  simp only [decide_eq_true_eq]
  refine ⟨?_, ?_, ?_, ?_⟩ <;> (try split) <;> (try split) <;> omega
theorem gain_impl {r m x : Int} (hr : 0 ≤ r ∧ r ≤ 47) (hm : 0 ≤ m ∧ m ≤ 3) : impl_gainsFault_1 x r m = some (badGain (gr r m) x) := by
  obtain ⟨_, g2, g3⟩ := gr_ok hr hm
  unfold impl_gainsFault_1 impl_gainsFault_1_u1 badGain
  simp only [impl_inRange_eq, g2]
  by_cases h : 0 ≤ x ∧ x ≤ 65535
  · obtain ⟨v, hv⟩ := (fits_same g3 (x := x) (by omega)).2
    rw [if_pos (decide_eq_true h), hv, decide_eq_true h]
    cases fitsB (gr r m) x <;> rfl
  · rw [if_neg (by simp; omega), decide_eq_false h]; rfl
/-- A search, as the reference has it. -/
theorem any_loop {l : List Int} (p : Int → Bool) {step : Int → Option (Int ⊕ (Unit ⊕ Unit))} (h1 : ∀ (i : Nat) (x : Int), l[i]? = some x → step i = some (if p x = true then .inr (.inr ()) else .inl (IntKind.i64.wrap ((i : Int) + 1))))
    (h2 : step (l.length : Int) = some (.inr (.inl ()))) (hl : (l.length : Int) ≤ maxI) : loopO step 0 = some (if l.any p = true then .inr () else .inl ()) := by
  unfold maxI at hl
  obtain ⟨t, q1, q2⟩ := loop_rule (step := step) (fun i s => s = (i : Int) ∧ ∀ j x, j < i → l[j]? = some x → p x = false)
      (fun t => t = if l.any p = true then .inr () else .inl ()) l.length (by
    rintro i s hi ⟨rfl, hj⟩
    rcases Nat.lt_or_ge i l.length with h | h
    · obtain ⟨x, hx, hm⟩ := get_lt h
      rw [h1 i x hx, w64 (by omega)]
      cases hp : p x with
      | false =>
        left
        simp only [Bool.false_eq_true, if_false]
        refine ⟨h, _, rfl, by simp, fun j y hj' hy => ?_⟩
        rcases Nat.lt_or_ge j i with hji | hji
        · exact hj j y hji hy
        · obtain rfl : j = i := by omega
          rw [hx] at hy; obtain rfl := Option.some.inj hy; exact hp
      | true =>
        right
        simp only [if_true]
        have : l.any p = true := List.any_eq_true.2 ⟨x, hm, hp⟩
        exact ⟨_, rfl, by rw [this]; rfl⟩
    · obtain rfl : i = l.length := by omega
      right
      rw [h2]
      have : l.any p = false := by
        rw [List.any_eq_false]
        intro x hx
        obtain ⟨j, hj'⟩ := List.getElem?_of_mem hx
        rw [hj j x (by have := (List.getElem?_eq_some_iff.1 hj').1; omega) hj']; simp
      exact ⟨_, rfl, by rw [this]; rfl⟩) (s := 0) ⟨rfl, fun j x hj => by omega⟩
  rw [q1, q2]
theorem gains_spec {r : Int} {l : List Int} (hr : 0 ≤ r ∧ r ≤ 47) (hl : (l.length : Int) ≤ maxI) : spec_l14Gains l r = some (!(l.any (badGain r))) := by
  have : loopO (spec_l14Gains_s3 l r) 0 = some (if l.any (badGain r) = true then .inr () else .inl ()) := by
    refine any_loop (badGain r) (fun i x hx => ?_) ?_ hl
    · have hi : i < l.length := (List.getElem?_eq_some_iff.1 hx).1
      simp only [spec_l14Gains_s3, decide_eq_true_eq]
      rw [if_pos (by omega), gain_spec hr hx]
      simp only [Option.bind_some]
      split <;> rfl
    · simp only [spec_l14Gains_s3, decide_eq_true_eq]
      rw [if_neg (by omega)]
  unfold spec_l14Gains
  rw [this]
  cases l.any (badGain r) <;> rfl
theorem gains_impl {r m : Int} {l : List Int} (hr : 0 ≤ r ∧ r ≤ 47) (hm : 0 ≤ m ∧ m ≤ 3) (hl : (l.length : Int) ≤ maxI) : impl_gainsFault l r m = some (if l.any (badGain (gr r m)) = true then 3 else 0) := by
  unfold impl_gainsFault slices_ContainsFunc_int64_impl_gainsFault_1 slices_IndexFunc_int64_impl_gainsFault_1
  obtain ⟨t, h1, h2⟩ := find_loop (l := l) (badGain (gr r m)) (step := slices_IndexFunc_int64_impl_gainsFault_1_s1 l r m (l.length : Int)) (fun i x hx => by
      have hi : i < l.length := (List.getElem?_eq_some_iff.1 hx).1
      simp only [slices_IndexFunc_int64_impl_gainsFault_1_s1, decide_eq_true_eq]
      rw [if_pos (by omega), getI_nat, hx]
      simp only [Option.bind_some, gain_impl hr hm]
      split <;> rfl) (by
      simp only [slices_IndexFunc_int64_impl_gainsFault_1_s1, decide_eq_true_eq]
      rw [if_neg (by omega)]) hl
  rw [h1]
  simp only [Option.bind_some, h2]
  rfl
def InB (B : Int) (l : List Int) : Prop := ∀ x ∈ l, -B ≤ x ∧ x ≤ B
def nrm (l : List Int) : Nat := (l.map Int.natAbs).sum
theorem nrm_mem : ∀ {l : List Int} {x : Int}, x ∈ l → x.natAbs ≤ nrm l
  | y :: l, x, h => by
    simp only [nrm, List.map_cons, List.sum_cons]
    rcases List.mem_cons.1 h with rfl | h
    · omega
    · have := nrm_mem h; simp only [nrm] at this; omega
theorem nrm_take {l : List Int} {i : Nat} {x : Int} (h : l[i]? = some x) : nrm (l.take (i + 1)) = nrm (l.take i) + x.natAbs := by
  rw [List.take_add_one, h]; simp [nrm, List.sum_append]
theorem nrm_le {l : List Int} (hb : InB 8 l) : ∀ i, nrm (l.take i) ≤ 8 * i := by
  intro i
  induction i with
  | zero => simp [nrm]
  | succ i ih =>
    rcases Nat.lt_or_ge i l.length with h | h
    · obtain ⟨x, hx, hm⟩ := get_lt h
      rw [nrm_take hx]
      have := hb x hm; omega
    · rw [List.take_of_length_le (by omega)]
      rw [List.take_of_length_le h] at ih; omega
theorem norm_spec {l : List Int} (hb : InB 8 l) (hl : (l.length : Int) ≤ 1048576) : spec_l1Norm l = some (nrm l : Int) := by
  unfold spec_l1Norm
  obtain ⟨t, h1, rfl⟩ := loop_rule (step := spec_l1Norm_s1 l) (fun i s => s = ((nrm (l.take i) : Int), (i : Int))) (fun t => t = (nrm l : Int)) l.length (by
    rintro i s hi rfl
    simp only [spec_l1Norm_s1, decide_eq_true_eq]
    rcases Nat.lt_or_ge i l.length with h | h
    · left
      obtain ⟨x, hx, hm⟩ := get_lt h
      have h1 := hb x hm
      have h2 := nrm_le hb i
      have ea : spec_l1Abs x = (x.natAbs : Int) := by
        unfold spec_l1Abs
        simp only [decide_eq_true_eq]
        split
        · rw [w64 (by omega)]; omega
        · omega
      rw [if_pos (by omega), getI_nat, hx]
      simp only [Option.bind_some]
      rw [ea, w64 (n := (nrm (l.take i) : Int) + (x.natAbs : Int)) (by omega), w64 (n := (i : Int) + 1) (by omega)]
      exact ⟨h, _, rfl, by rw [nrm_take hx]; simp⟩
    · right
      rw [if_neg (by omega)]
      exact ⟨_, rfl, by rw [List.take_of_length_le h]⟩) (s := (0, 0)) (by simp [nrm])
  rw [h1]; rfl
theorem norm_impl {l : List Int} (hb : InB 8 l) (hl : (l.length : Int) ≤ 1048576) : impl_normOf l = some (nrm l : Int) := by
  unfold impl_normOf
  obtain ⟨t, h1, rfl⟩ := loop_rule (step := impl_normOf_s1 l (l.length : Int)) (fun i s => s = ((nrm (l.take i) : Int), (i : Int))) (fun t => t = (nrm l : Int)) l.length (by
    rintro i s hi rfl
    simp only [impl_normOf_s1, decide_eq_true_eq]
    rcases Nat.lt_or_ge i l.length with h | h
    · left
      obtain ⟨x, hx, hm⟩ := get_lt h
      have h1 := hb x hm
      have h2 := nrm_le hb i
      have ea : impl_abs x = (x.natAbs : Int) := by
        unfold impl_abs mxI
        rw [w64 (n := 0 - x) (by omega)]
        split <;> omega
      rw [if_pos (by omega), getI_nat, hx]
      simp only [Option.bind_some]
      rw [ea, w64 (n := (nrm (l.take i) : Int) + (x.natAbs : Int)) (by omega), w64 (n := (i : Int) + 1) (by omega)]
      exact ⟨h, _, rfl, by rw [nrm_take hx]; simp⟩
    · right
      rw [if_neg (by omega)]
      exact ⟨_, rfl, by rw [List.take_of_length_le h]⟩) (s := (0, 0)) (by simp [nrm])
  rw [h1]; rfl
theorem all_iff {B : Int} {l : List Int} : (l.all fun x => decide (-B ≤ x ∧ x ≤ B)) = true ↔ InB B l := by
  rw [List.all_eq_true]
  exact ⟨fun h x hx => of_decide_eq_true (h x hx), fun h x hx => decide_eq_true (h x hx)⟩
theorem pulsesF_same {l : List Int} {k : Int} (hk : 2 ≤ k ∧ k ≤ 8) (hl : (l.length : Int) ≤ 1048576) : ∃ c, spec_PulsesFault l k = some c ∧ impl_PulsesFault l k = some c ∧ (c = 0 → InB k l ∧ (nrm l : Int) = k) := by
  have hf : ∀ a b c : Int, impl_first [a, b, c] = some (firstL [a, b, c]) := fun a b c => impl_first_eq (by simp [maxI])
  have e1 : spec_PulsesFault_u1 l k = !(decide (1 ≤ (l.length : Int) ∧ (l.length : Int) ≤ 4)) := by
    unfold spec_PulsesFault_u1
    by_cases h1 : (l.length : Int) < 1
    · rw [if_pos (decide_eq_true h1), decide_eq_false (by omega)]; rfl
    · rw [if_neg (by simpa using h1)]
      by_cases h2 : (l.length : Int) > 4
      · rw [decide_eq_true h2, decide_eq_false (by omega)]; rfl
      · rw [decide_eq_false h2, decide_eq_true (by omega)]; rfl
  obtain ⟨ok, hok1, hok2, hok3⟩ : ∃ ok : Bool, spec_PulsesFault_u2 l k = some (!ok) ∧ (impl_PulsesFault_u1 l k = some (firstL [if (!(decide (1 ≤ (l.length : Int) ∧ (l.length : Int) ≤ 4))) = true then 2 else 0, 0, if (!ok) = true then 1 else 0])) ∧ (ok = true → InB k l ∧ (nrm l : Int) = k) := by
    unfold spec_PulsesFault_u2 impl_PulsesFault_u1 impl_isDim impl_isPulses
    simp only [impl_inRange_eq, impl_codeIf_eq]
    rw [w64 (n := 0 - k) (by omega), l1All_all (by unfold maxI; omega), allWithin_eq (by omega) (by unfold maxI; omega), decide_eq_true (show (0 ≤ k ∧ k ≤ 8) by omega)]
    have e0 : (0 - k) = -k := by omega
    rw [e0]
    by_cases h8 : InB 8 l
    · rw [all_iff.2 h8]
      simp only [Option.bind_some, if_true, norm_impl h8 hl]
      by_cases hn : (nrm l : Int) = k
      · have hkk : InB k l := fun x hx => by have := nrm_mem hx; omega
        rw [all_iff.2 hkk]
        refine ⟨true, ?_, ?_, fun _ => ⟨hkk, hn⟩⟩
        · simp only [if_true, norm_spec h8 hl, Option.bind_some, hn]; simp
        · simp only [hn, hf, Option.bind_some]; simp
      · refine ⟨false, ?_, ?_, fun h => by simp at h⟩
        · cases (l.all fun x => decide (-k ≤ x ∧ x ≤ k))
          · rfl
          · simp only [if_true, norm_spec h8 hl, Option.bind_some]; simp [hn]
        · simp [hn, hf]
    · have h8' : (l.all fun x => decide (-8 ≤ x ∧ x ≤ 8)) = false := by
        rw [Bool.eq_false_iff]; exact fun h => h8 (all_iff.1 h)
      have hk' : (l.all fun x => decide (-k ≤ x ∧ x ≤ k)) = false := by
        rw [Bool.eq_false_iff]; exact fun h => h8 fun x hx => by have := all_iff.1 h x hx; omega
      rw [h8', hk']
      exact ⟨false, rfl, by simp [hf], fun h => by simp at h⟩
  unfold spec_PulsesFault impl_PulsesFault
  rw [e1, hok2, hok1, spec_l1In_eq, decide_eq_true (show (0 ≤ k ∧ k ≤ 8) by omega)]
  by_cases hd : 1 ≤ (l.length : Int) ∧ (l.length : Int) ≤ 4
  · rw [decide_eq_true hd]
    simp only [Bool.not_true, Bool.false_eq_true, if_false, if_true, Option.bind_some]
    cases ok
    · exact ⟨1, rfl, rfl, fun h => by simp at h⟩
    · exact ⟨0, rfl, rfl, fun _ => hok3 rfl⟩
  · rw [decide_eq_false hd]
    exact ⟨2, rfl, rfl, fun h => by simp at h⟩
theorem headF_same {n s r m p : Int} : ∃ c, impl_headFault n s r m p = some c ∧ spec_l14Head n s r m p = c ∧ (c = 0 → (0 ≤ n ∧ n ≤ 9999) ∧ spec_SizeFault s = 0 ∧ (0 ≤ r ∧ r ≤ 47) ∧ (0 ≤ m ∧ m ≤ 3) ∧ 0 ≤ p ∧ p ≤ 2) := by
  have hf : ∀ a b c : Int, impl_first [a, b, c] = some (firstL [a, b, c]) := fun a b c => impl_first_eq (by simp [maxI])
  unfold impl_headFault impl_headFault_u1 spec_l14Head spec_l14Head_u1 impl_isRung impl_isMask impl_isNumber impl_isSpread spec_l14Number spec_l9Rung spec_l13Is spec_l10Spread
  simp only [impl_inRange_eq, spec_l1In_eq, hf, impl_codeIf_eq, size_same, Option.bind_some]
  by_cases h1 : 0 ≤ n ∧ n ≤ 9999
  · rcases size_cases (n := s) with h2 | h2
    · by_cases h3 : 0 ≤ r ∧ r ≤ 47
      · by_cases h4 : 0 ≤ m ∧ m ≤ 3
        · by_cases h5 : 0 ≤ p ∧ p ≤ 2
          · rw [decide_eq_true h1, decide_eq_true h3, decide_eq_true h4, decide_eq_true h5, h2]
            exact ⟨0, rfl, rfl, fun _ => ⟨h1, rfl, h3, h4, h5⟩⟩
          · rw [decide_eq_true h1, decide_eq_true h3, decide_eq_true h4, decide_eq_false h5, h2]
            exact ⟨3, rfl, rfl, fun h => by simp at h⟩
        · rw [decide_eq_true h1, decide_eq_true h3, decide_eq_false h4, h2]
          exact ⟨3, rfl, rfl, fun h => by simp at h⟩
      · rw [decide_eq_true h1, decide_eq_false h3, h2]
        exact ⟨3, rfl, rfl, fun h => by simp at h⟩
    · rw [decide_eq_true h1, h2]
      refine ⟨3, ?_, rfl, fun h => by simp at h⟩
      by_cases h3 : 0 ≤ r ∧ r ≤ 47 <;> by_cases h4 : 0 ≤ m ∧ m ≤ 3 <;> simp [h3, h4, firstL]
  · rw [decide_eq_false h1]
    refine ⟨3, ?_, rfl, fun h => by simp at h⟩
    by_cases h3 : 0 ≤ r ∧ r ≤ 47 <;> by_cases h4 : 0 ≤ m ∧ m ≤ 3 <;> simp [h3, h4, firstL]
theorem bands_same {n : Int} : impl_bandsOf n = spec_l13Bands n := rfl
theorem bands_len {n : Int} : (spec_l13Bands n).length = 1 ∨ (spec_l13Bands n).length = 2 := by
  unfold spec_l13Bands
  split
  · exact .inl rfl
  · split <;> exact .inr rfl
theorem laws_toInt64S_eq {l : List Int} (hl : (l.length : Int) ≤ 35184372088832) : laws_toInt64S l = some l := by
  unfold laws_toInt64S
  rw [if_pos (okMake_8 (by omega) hl), Int.toNat_natCast]
  obtain ⟨t, h1, rfl⟩ := loop_rule (step := laws_toInt64S_s1 l) (fun i s => s.2 = i ∧ s.1.length = l.length ∧ ∀ j, j < i → s.1[j]? = l[j]?) (fun t => t = l) l.length (by
    rintro i ⟨a, k⟩ hi ⟨hk, ha, hj⟩
    simp only at hk ha hj
    subst hk
    simp only [laws_toInt64S_s1, decide_eq_true_eq]
    rcases Nat.lt_or_ge i l.length with h | h
    · left
      obtain ⟨x, hx, _⟩ := get_lt h
      obtain ⟨y, hy, _⟩ := get_lt (l := a) (i := i) (by omega)
      rw [if_pos (by omega), getI_nat, hx, getI_nat, hy, Int.toNat_natCast, hy, w64 (by omega)]
      refine ⟨h, _, rfl, by simp, by simp [ha], fun j hj' => ?_⟩
      simp only [List.getElem?_set]
      split
      · rename_i e; subst e; rw [if_pos (by omega), hx]
      · exact hj j (by omega)
    · right
      rw [if_neg (by omega)]
      exact ⟨a, rfl, list_ext ha fun j hj' => hj j (by omega)⟩) (s := (List.replicate l.length 0, 0)) ⟨rfl, by simp, fun j hj => by omega⟩
  rw [h1]; rfl
theorem laws_eqInt64S_self {l : List Int} (hl : (l.length : Int) ≤ maxI) : laws_eqInt64S l l = some true := by
  unfold maxI at hl
  unfold laws_eqInt64S
  rw [if_neg (by simp)]
  obtain ⟨t, h1, rfl⟩ := loop_rule (step := laws_eqInt64S_s1 l l) (fun i s => s = (i : Int)) (fun t => t = .inl ()) l.length (by
    rintro i s hi rfl
    simp only [laws_eqInt64S_s1, decide_eq_true_eq]
    rcases Nat.lt_or_ge i l.length with h | h
    · left
      obtain ⟨x, hx, _⟩ := get_lt h
      rw [if_pos (by omega), getI_nat, hx, w64 (by omega)]
      simp only [Option.bind_some, bne_self_eq_false, Bool.false_eq_true, if_false]
      exact ⟨h, _, rfl, by simp⟩
    · right
      rw [if_neg (by omega)]
      exact ⟨_, rfl, rfl⟩) (s := 0) rfl
  rw [h1]; rfl
def pref (f : Nat → Nat) : Nat → Nat
  | 0 => 0
  | n + 1 => pref f n + f n
/-- What is left of k behind the i-th number from -k on. -/
def wk (k i : Nat) : Nat := if i ≤ k then i else 2 * k - i
def cntN : Nat → Nat → Nat
  | 0, k => if k = 0 then 1 else 0
  | d + 1, k => pref (fun i => cntN d (wk k i)) (2 * k + 1)
theorem pref_mono {f : Nat → Nat} {m n : Nat} (h : m ≤ n) : pref f m ≤ pref f n := by
  induction h with
  | refl => exact Nat.le_refl _
  | step _ ih => exact Nat.le_trans ih (by rw [pref]; omega)
theorem pref_congr {f g : Nat → Nat} : ∀ {n : Nat}, (∀ i, i < n → f i = g i) → pref f n = pref g n
  | 0, _ => rfl
  | n + 1, h => by rw [pref, pref, pref_congr fun i hi => h i (by omega), h n (by omega)]
/-- The other form: those with a smaller number twice. -/
theorem cnt_form (d k : Nat) : cntN (d + 1) k = cntN d k + 2 * pref (cntN d) k := by
  rw [cntN]
  have low : ∀ j, j ≤ k + 1 → pref (fun i => cntN d (wk k i)) j = pref (cntN d) j := fun j hj => pref_congr fun i hi => by
    show cntN d (wk k i) = cntN d i
    rw [wk, if_pos (by omega)]
  have high : ∀ m, m ≤ k → pref (fun i => cntN d (wk k i)) (k + 1 + m) + pref (cntN d) (k - m) = cntN d k + 2 * pref (cntN d) k := by
    intro m
    induction m with
    | zero => intro _; rw [Nat.add_zero, low _ (Nat.le_refl _), pref, Nat.sub_zero]; omega
    | succ m ih =>
      intro hm
      have := ih (by omega)
      rw [show k + 1 + (m + 1) = (k + 1 + m) + 1 from by omega, pref]
      have e : wk k (k + 1 + m) = k - (m + 1) := by rw [wk, if_neg (by omega)]; omega
      rw [e]
      have e2 : k - m = (k - (m + 1)) + 1 := by omega
      rw [e2, pref] at this
      omega
  have := high k (Nat.le_refl _)
  rw [Nat.sub_self, pref] at this
  rw [show 2 * k + 1 = k + 1 + k from by omega]
  omega
def cntF : Nat → List Nat
  | 0 => [1, 0, 0, 0, 0, 0, 0, 0, 0]
  | 1 => [1, 2, 2, 2, 2, 2, 2, 2, 2]
  | 2 => [1, 4, 8, 12, 16, 20, 24, 28, 32]
  | 3 => [1, 6, 18, 38, 66, 102, 146, 198, 258]
  | _ => [1, 8, 32, 88, 192, 360, 608, 952, 1408]
theorem cnt_le : ∀ d : Fin 5, ∀ k : Fin 9, cntN d.val k.val ≤ 1408 := by decide +kernel
theorem cnt_le' {d k : Nat} (hd : d ≤ 4) (hk : k ≤ 8) : cntN d k ≤ 1408 := cnt_le ⟨d, by omega⟩ ⟨k, by omega⟩
theorem pref_le {f : Nat → Nat} {c : Nat} : ∀ {n : Nat}, (∀ i, i < n → f i ≤ c) → pref f n ≤ c * n
  | 0, _ => by simp [pref]
  | n + 1, h => by
    have := pref_le (n := n) fun i hi => h i (by omega)
    have := h n (by omega)
    rw [pref, Nat.mul_succ]; omega
theorem wk_le {k i : Nat} (hi : i ≤ 2 * k) : wk k i ≤ k := by unfold wk; split <;> omega
theorem abs_eq {v : Int} (h : -1000000 ≤ v ∧ v ≤ 1000000) : impl_abs v = (v.natAbs : Int) := by
  unfold impl_abs mxI
  rw [w64 (by omega)]
  split <;> omega
theorem sabs_eq {v : Int} (h : -1000000 ≤ v ∧ v ≤ 1000000) : spec_l1Abs v = (v.natAbs : Int) := by
  unfold spec_l1Abs
  rw [w64 (by omega)]
  split
  · rename_i q; simp at q; omega
  · rename_i q; simp at q; omega
theorem wk_abs {k i : Nat} (hi : i ≤ 2 * k) : (k : Int) - ((-(k : Int) + i).natAbs : Int) = (wk k i : Int) := by
  unfold wk; split <;> omega
theorem count_spec {d k : Nat} (hd : d ≤ 4) (hk : k ≤ 8) : spec_l11Count d k = some (cntN d k : Int) := by
  have inner : ∀ e : Nat, e < 4 → ∀ a : List Int, (∀ j, j ≤ k → a[j]? = some (cntN e j : Int)) → ∃ b : List Int, loopO (spec_l11Count_s2 a (d : Int) (k : Int) (e : Int)) ([], 0, 0) = some b ∧ ∀ j, j ≤ k → b[j]? = some (cntN (e + 1) j : Int) := by
    intro e he a ha
    obtain ⟨t, h1, h2, h3⟩ := loop_rule (step := spec_l11Count_s2 a (d : Int) (k : Int) (e : Int)) (fun i s => s.1.length = i ∧ (∀ j, j < i → s.1[j]? = some (cntN (e + 1) j : Int)) ∧ s.2.1 = (pref (cntN e) i : Int) ∧ s.2.2 = (i : Int)) (fun t => t.length = k + 1 ∧ ∀ j, j ≤ k → t[j]? = some (cntN (e + 1) j : Int)) (k + 1) (by
      rintro i ⟨o, f, g⟩ hi ⟨q1, q2, q3, q4⟩
      simp only at q1 q2 q3 q4
      subst q3; subst q4
      simp only [spec_l11Count_s2, decide_eq_true_eq]
      rcases Nat.lt_or_ge i (k + 1) with h | h
      · left
        have b1 := cnt_le' (d := e) (k := i) (by omega) (by omega)
        have b2 := pref_le (f := cntN e) (c := 1408) (n := i) fun j hj => cnt_le' (by omega) (by omega)
        rw [if_pos (by omega), getI_nat, Int.toNat_natCast, ha i (by omega)]
        simp only [Option.bind_some]
        rw [w64 (n := 2 * (pref (cntN e) i : Int)) (by omega), w64 (n := (cntN e i : Int) + 2 * (pref (cntN e) i : Int)) (by omega), if_pos (okApp_8 (by simp; omega)), w64 (n := (pref (cntN e) i : Int) + (cntN e i : Int)) (by omega), w64 (n := (i : Int) + 1) (by omega)]
        refine ⟨h, _, rfl, by simp [q1], fun j hj => ?_, by simp [pref], by simp⟩
        rcases Nat.lt_or_ge j i with hj2 | hj2
        · show (o ++ _)[j]? = _
          rw [List.getElem?_append_left (by omega)]; exact q2 j hj2
        · obtain rfl : j = i := by omega
          show (o ++ _)[j]? = _
          rw [List.getElem?_append_right (by omega), q1, Nat.sub_self, cnt_form]
          simp
      · right
        rw [if_neg (by omega)]
        exact ⟨_, rfl, by omega, fun j hj => q2 j (by omega)⟩) (s := ([], 0, 0)) ⟨rfl, fun j hj => by omega, rfl, rfl⟩
    exact ⟨t, h1, h3⟩
  unfold spec_l11Count
  rw [w64 (n := (k : Int) + 1) (by omega), if_pos (okMake_8 (by omega) (by omega))]
  have e1 : ((k : Int) + 1).toNat = k + 1 := by omega
  rw [e1]
  have e2 : getI (List.replicate (k + 1) (0 : Int)) 0 = some 0 := by simp [getI]
  rw [e2]
  have e3 : (List.replicate (k + 1) (0 : Int))[(0 : Int).toNat]? = some 0 := by simp
  rw [e3]
  simp only [Option.bind_some]
  obtain ⟨t, h1, h2⟩ := loop_rule (step := spec_l11Count_s3 (d : Int) (k : Int)) (fun i s => (∀ j, j ≤ k → s.1[j]? = some (cntN i j : Int)) ∧ s.2 = (i : Int)) (fun t => ∀ j, j ≤ k → t[j]? = some (cntN d j : Int)) d (by
    rintro i ⟨a, g⟩ hi ⟨q1, q2⟩
    simp only at q1 q2
    subst q2
    simp only [spec_l11Count_s3, decide_eq_true_eq]
    rcases Nat.lt_or_ge i d with h | h
    · left
      obtain ⟨b, b1, b2⟩ := inner i (by omega) a q1
      rw [if_pos (by omega), b1]
      simp only [Option.bind_some]
      rw [w64 (n := (i : Int) + 1) (by omega)]
      exact ⟨h, _, rfl, b2, by simp⟩
    · right
      obtain rfl : i = d := by omega
      rw [if_neg (by omega)]
      exact ⟨_, rfl, q1⟩) (s := ((List.replicate (k + 1) (0 : Int)).set (0 : Int).toNat 1, 0)) ⟨fun j hj => by
        cases j with
        | zero => simp [cntN]
        | succ j => simp [cntN, List.getElem?_set, List.getElem?_replicate]; omega, rfl⟩
  rw [h1]
  simp only [Option.bind_some]
  rw [getI_nat, Int.toNat_natCast, h2 k (Nat.le_refl _)]
  rfl
theorem count_impl : ∀ {d k fu : Nat}, d ≤ 4 → k ≤ 8 → d < fu → impl_countPulses fu d k = some (cntN d k : Int)
  | 0, k, fu + 1, _, hk, _ => by
    rw [impl_countPulses]
    unfold impl_countPulses_b
    rw [if_pos (by simp), cntN]
    by_cases h : k = 0
    · subst h; rfl
    · rw [if_neg (by simpa using h), if_neg h]; rfl
  | d + 1, k, fu + 1, hd, hk, hf => by
    rw [impl_countPulses]
    unfold impl_countPulses_b
    rw [if_neg (by simp; omega), w64 (n := 0 - (k : Int)) (by omega)]
    obtain ⟨t, h1, h2⟩ := loop_rule (step := impl_countPulses_s1 fu (impl_countPulses fu) ((d + 1 : Nat) : Int) (k : Int)) (fun i s => s.1 = (pref (fun i => cntN d (wk k i)) i : Int) ∧ s.2 = -(k : Int) + i) (fun t => t = (cntN (d + 1) k : Int)) (2 * k + 1) (by
      rintro i ⟨c, v⟩ hi ⟨q1, q2⟩
      simp only at q1 q2
      subst q1; subst q2
      simp only [impl_countPulses_s1, decide_eq_true_eq]
      rcases Nat.lt_or_ge i (2 * k + 1) with h | h
      · left
        have b1 := cnt_le' (d := d) (k := wk k i) (by omega) (Nat.le_trans (wk_le (by omega)) hk)
        have b2 := pref_le (f := fun i => cntN d (wk k i)) (c := 1408) (n := i) fun j hj => cnt_le' (by omega) (Nat.le_trans (wk_le (by omega)) hk)
        rw [if_pos (by omega), abs_eq (by omega), wk_abs (by omega), w64 (n := ((d + 1 : Nat) : Int) - 1) (by omega), w64 (n := (wk k i : Int)) (by have := wk_le (k := k) (i := i) (by omega); omega)]
        rw [show ((d + 1 : Nat) : Int) - 1 = (d : Int) from by omega, count_impl (by omega) (Nat.le_trans (wk_le (by omega)) hk) (by omega)]
        simp only [Option.bind_some]
        rw [w64 (by omega), w64 (by omega)]
        exact ⟨h, _, rfl, by simp [pref], by simp only []; omega⟩
      · right
        obtain rfl : i = 2 * k + 1 := by omega
        rw [if_neg (by omega)]
        exact ⟨_, rfl, rfl⟩) (s := (0, 0 - (k : Int))) ⟨rfl, by simp only []; omega⟩
    rw [h1, h2]; rfl
/-- The numbers of an index: from -k on, those passed that count less. -/
theorem at_inner {m k : Nat} (hm : m ≤ 3) (hk : k ≤ 8) {al : List Int} {dim i : Int} (hd : IntKind.i64.wrap (IntKind.i64.wrap (dim - 1) - i) = m) : ∀ (r j x : Nat), 2 * k - j = r → j ≤ 2 * k → x < pref (fun i => cntN m (wk k i)) (2 * k + 1) - pref (fun i => cntN m (wk k i)) j →
    ∃ (y e : Nat), loopO (spec_l11At_s6 al dim k i) ((x : Int), -(k : Int) + j) = some ((y : Int), -(k : Int) + e) ∧
      loopO (impl_pulsesAt_s1 64 al k m) ((x : Int), -(k : Int) + j, (cntN m (wk k j) : Int)) = some ((y : Int), -(k : Int) + e) ∧ e ≤ 2 * k ∧ y < cntN m (wk k e)
  | r, j, x, hr, hj, hx => by
    have w := wk_le (k := k) (i := j) hj
    have c := cnt_le' (d := m) (k := wk k j) (by omega) (by omega)
    have pj : pref (fun i => cntN m (wk k i)) (j + 1) = pref (fun i => cntN m (wk k i)) j + cntN m (wk k j) := rfl
    have pb := pref_le (f := fun i => cntN m (wk k i)) (c := 1408) (n := 2 * k + 1) fun i hi => cnt_le' (by omega) (Nat.le_trans (wk_le (by omega)) hk)
    rw [loopO_eq, loopO_eq (step := impl_pulsesAt_s1 _ _ _ _)]
    simp only [spec_l11At_s6, spec_l11At_u5, impl_pulsesAt_s1, decide_eq_true_eq]
    rw [sabs_eq (by omega), wk_abs hj, w64 (n := (wk k j : Int)) (by omega), hd, count_spec (by omega) (by omega)]
    by_cases h : cntN m (wk k j) ≤ x
    · have jl : j < 2 * k := by
        rcases Nat.lt_or_ge j (2 * k) with q | q
        · exact q
        · obtain rfl : j = 2 * k := by omega
          rw [pj] at hx; omega
      rw [if_pos (by omega)]
      simp only [Option.bind_some]
      rw [if_pos (decide_eq_true (by omega)), if_pos (by omega), w64 (n := (x : Int) - (cntN m (wk k j) : Int)) (by omega), w64 (n := -(k : Int) + j + 1) (by omega)]
      rw [show -(k : Int) + j + 1 = -(k : Int) + (j + 1 : Nat) from by omega, show (x : Int) - (cntN m (wk k j) : Int) = ((x - cntN m (wk k j) : Nat) : Int) from by omega]
      rw [abs_eq (by omega), wk_abs (by omega), w64 (n := (wk k (j + 1) : Int)) (by have := wk_le (k := k) (i := j + 1) (by omega); omega), count_impl (by omega) (by have := wk_le (k := k) (i := j + 1) (by omega); omega) (by omega)]
      simp only [Option.bind_some]
      exact at_inner hm hk hd (2 * k - (j + 1)) (j + 1) (x - cntN m (wk k j)) rfl (by omega) (by omega)
    · refine ⟨x, j, ?_, ?_, hj, by omega⟩
      · by_cases q : -(k : Int) + j < k
        · rw [if_pos q]
          simp only [Option.bind_some]
          rw [if_neg (by simp; omega)]
        · rw [if_neg q]
          simp only [Option.bind_some, Bool.false_eq_true, if_false]
      · rw [if_neg (by omega)]
  termination_by r => r
theorem at_outer {dim : Nat} (hd : dim ≤ 4) : ∀ (m k x : Nat) (out : List Int), m ≤ dim → k ≤ 8 → x < cntN m k → out.length + m = dim →
    ∃ l, loopO (spec_l11At_s7 (dim : Int)) (out, (x : Int), (k : Int), ((dim - m : Nat) : Int)) = some l ∧ loopO (impl_pulsesAt_s2 64) (out, (k : Int), (x : Int), (m : Int) - 1) = some l ∧ l.length = dim
  | 0, k, x, out, h1, h2, h3, h4 => by
    rw [loopO_eq, loopO_eq (step := impl_pulsesAt_s2 _)]
    simp only [spec_l11At_s7, impl_pulsesAt_s2, decide_eq_true_eq]
    rw [if_neg (by omega), if_neg (by omega)]
    exact ⟨out, rfl, rfl, by omega⟩
  | m + 1, k, x, out, h1, h2, h3, h4 => by
    rw [loopO_eq, loopO_eq (step := impl_pulsesAt_s2 _)]
    simp only [spec_l11At_s7, impl_pulsesAt_s2, decide_eq_true_eq]
    rw [if_pos (by omega), if_pos (by omega), w64 (n := 0 - (k : Int)) (by omega)]
    have hw : IntKind.i64.wrap (IntKind.i64.wrap ((dim : Int) - 1) - ((dim - (m + 1) : Nat) : Int)) = m := by rw [w64 (n := (dim : Int) - 1) (by omega), w64 (by omega)]; omega
    rw [cntN] at h3
    obtain ⟨y, e, q1, q2, q3, q4⟩ := at_inner (m := m) (k := k) (al := out) (dim := dim) (by omega) h2 hw (2 * k) 0 x rfl (by omega) (by simpa [pref] using h3)
    have z : 0 - (k : Int) = -(k : Int) + (0 : Nat) := by omega
    rw [z, abs_eq (by omega), wk_abs (by omega)]
    have w0 := wk_le (k := k) (i := 0) (by omega)
    have we := wk_le (k := k) (i := e) q3
    rw [w64 (n := (wk k 0 : Int)) (by omega), show ((m + 1 : Nat) : Int) - 1 = (m : Int) from by omega, count_impl (by omega) (by omega) (by omega)]
    simp only [Option.bind_some]
    rw [q1, q2]
    simp only [Option.bind_some]
    rw [if_pos (okApp_8 (by simp; omega)), if_pos (okApp_8 (by simp; omega)), sabs_eq (by omega), abs_eq (by omega), wk_abs q3, w64 (n := (wk k e : Int)) (by omega), w64 (n := ((dim - (m + 1) : Nat) : Int) + 1) (by omega), w64 (n := (m : Int) - 1) (by omega)]
    rw [show ((dim - (m + 1) : Nat) : Int) + 1 = ((dim - m : Nat) : Int) from by omega]
    exact at_outer hd m (wk k e) y (out ++ [-(k : Int) + e]) (by omega) (by omega) q4 (by simp; omega)
theorem pulsesAt_same {d k : Nat} {x : Int} (hd : d ≤ 4) (hk : k ≤ 8) : ∃ r, spec_PulsesAt d k x = some r ∧ impl_PulsesAt 64 d k x = some r ∧ (r.Code = 0 → r.List_.length = d) ∧ (r.Code ≠ 0 → r.List_ = []) ∧ r.List_.length ≤ 4 := by
  unfold spec_PulsesAt impl_PulsesAt impl_PulsesAt_u1 impl_isDim impl_isPulses spec_l11Ask spec_l11Ask_u1
  simp only [spec_l1In_eq, impl_inRange_eq, decide_eq_true_eq]
  by_cases h1 : (1 : Int) ≤ d ∧ (d : Int) ≤ 4
  · have h2 : (0 : Int) ≤ k ∧ (k : Int) ≤ 8 := by omega
    have c := cnt_le' hd hk
    rw [if_pos h1, if_pos h1, if_pos h2, count_spec hd hk, count_impl hd hk (by omega)]
    simp only [h2, and_self, decide_true, if_true, Option.bind_some, Bool.not_eq_eq_eq_not, Bool.not_true, decide_eq_false_iff_not]
    rw [w64 (by omega)]
    by_cases h3 : 0 ≤ x ∧ x ≤ (cntN d k : Int) - 1
    · rw [if_pos h3, if_neg (by simpa using h3)]
      obtain ⟨l, q1, q2, q3⟩ := at_outer hd d k x.toNat [] (Nat.le_refl _) hk (by omega) (by simp)
      unfold spec_l11At impl_pulsesAt
      rw [Int.toNat_of_nonneg h3.1, Nat.sub_self] at q1
      rw [Int.toNat_of_nonneg h3.1] at q2
      rw [show (((0 : Nat) : Int)) = 0 from rfl] at q1
      rw [q1, w64 (by omega), q2]
      exact ⟨_, rfl, rfl, fun _ => q3, fun h => absurd rfl h, by simp only []; omega⟩
    · rw [if_neg h3, if_pos (by simpa using h3)]
      exact ⟨_, rfl, rfl, fun h => by simp at h, fun _ => rfl, by simp⟩
  · rw [if_neg h1, if_neg h1]
    simp only [Bool.false_eq_true, if_false, Option.bind_some, if_true]
    exact ⟨_, rfl, rfl, fun h => by simp at h, fun _ => rfl, by simp⟩
/-- How many pulses stand ahead, from the i-th on. -/
def idxN : Nat → List Int → Nat
  | _, [] => 0
  | k, x :: l => pref (fun i => cntN l.length (wk k i)) ((x + (k : Int)).toNat) + idxN (k - x.natAbs) l
theorem cnt_le3 {d k : Nat} (hd : d ≤ 3) (hk : k ≤ 8) : cntN d k ≤ 258 := by
  have : ∀ d : Fin 4, ∀ k : Fin 9, cntN d.val k.val ≤ 258 := by decide +kernel
  exact this ⟨d, by omega⟩ ⟨k, by omega⟩
theorem idx_le : ∀ {l : List Int} {k : Nat}, l.length ≤ 4 → k ≤ 8 → nrm l ≤ k → idxN k l ≤ 4128 * l.length
  | [], _, _, _, _ => by simp [idxN]
  | x :: l, k, hl, hk, hn => by
    have hx : x.natAbs + nrm l ≤ k := by simpa [nrm] using hn
    have := idx_le (l := l) (k := k - x.natAbs) (by simp at hl; omega) (by omega) (by omega)
    have b := pref_le (f := fun i => cntN l.length (wk k i)) (c := 258) (n := (x + (k : Int)).toNat) fun i hi => cnt_le3 (by simp at hl; omega) (Nat.le_trans (wk_le (by omega)) hk)
    simp only [idxN, List.length_cons]
    omega
theorem index_same {l : List Int} (hl : l.length ≤ 4) : ∀ (r pre : List Int) (k n : Nat), l = pre ++ r → k ≤ 8 → nrm r ≤ k → n + idxN k r ≤ 1000000 →
    loopO (spec_l11Index_s3 l) ((n : Int), (k : Int), (pre.length : Int)) = some ((n + idxN k r : Nat) : Int) ∧ loopO (impl_indexPulses_s3 64 l (l.length : Int)) ((k : Int), (n : Int), (pre.length : Int)) = some ((n + idxN k r : Nat) : Int)
  | [], pre, k, n, h, hk, hn, hb => by
    rw [loopO_eq, loopO_eq (step := impl_indexPulses_s3 _ _ _)]
    simp only [spec_l11Index_s3, impl_indexPulses_s3, decide_eq_true_eq]
    subst h
    simp only [List.append_nil] at hl ⊢
    rw [if_neg (by omega), if_neg (by omega)]
    exact ⟨by simp [idxN], by simp [idxN]⟩
  | x :: r, pre, k, n, h, hk, hn, hb => by
    have hx : x.natAbs + nrm r ≤ k := by simpa [nrm] using hn
    have hg : l[pre.length]? = some x := by rw [h]; simp
    have hll : l.length = pre.length + (r.length + 1) := by rw [h]; simp
    have b := hb
    rw [idxN] at b
    have w1 : IntKind.i64.wrap (IntKind.i64.wrap ((l.length : Int) - 1) - (pre.length : Int)) = (r.length : Int) := by rw [w64 (n := (l.length : Int) - 1) (by omega), w64 (by omega)]; omega
    have in1 : loopO (spec_l11Index_s2 l (k : Int) (pre.length : Int)) ((n : Int), 0 - (k : Int)) = some ((n + pref (fun i => cntN r.length (wk k i)) ((x + (k : Int)).toNat) : Nat) : Int) := by
      obtain ⟨t, h1, rfl⟩ := loop_rule (step := spec_l11Index_s2 l (k : Int) (pre.length : Int)) (fun i s => s = (((n + pref (fun i => cntN r.length (wk k i)) i : Nat) : Int), -(k : Int) + i)) (fun t => t = ((n + pref (fun i => cntN r.length (wk k i)) ((x + (k : Int)).toNat) : Nat) : Int)) (x + (k : Int)).toNat (by
        rintro i s hi rfl
        simp only [spec_l11Index_s2, decide_eq_true_eq]
        rw [getI_nat, hg]
        simp only [Option.bind_some]
        rcases Nat.lt_or_ge i (x + (k : Int)).toNat with q | q
        · left
          have c := cnt_le' (d := r.length) (k := wk k i) (by omega) (Nat.le_trans (wk_le (by omega)) hk)
          have b2 := pref_mono (f := fun i => cntN r.length (wk k i)) (m := i) (n := (x + (k : Int)).toNat) hi
          have w2 := wk_le (k := k) (i := i) (by omega)
          rw [if_pos (by omega), w1, sabs_eq (by omega), wk_abs (by omega), w64 (n := (wk k i : Int)) (by omega), count_spec (by omega) (by omega)]
          simp only [Option.bind_some]
          rw [w64 (by omega), w64 (by omega)]
          exact ⟨q, _, rfl, by simp only [pref, Prod.mk.injEq]; omega⟩
        · right
          obtain rfl : i = (x + (k : Int)).toNat := by omega
          rw [if_neg (by omega)]
          exact ⟨_, rfl, rfl⟩) (s := ((n : Int), 0 - (k : Int))) (by simp [pref])
      exact h1
    have in2 : loopO (impl_indexPulses_s2 64 l (k : Int) x (r.length : Int) (l.length : Int) (pre.length : Int)) ((n : Int), 0 - (k : Int)) = some ((n + pref (fun i => cntN r.length (wk k i)) ((x + (k : Int)).toNat) : Nat) : Int) := by
      obtain ⟨t, h1, rfl⟩ := loop_rule (step := impl_indexPulses_s2 64 l (k : Int) x (r.length : Int) (l.length : Int) (pre.length : Int)) (fun i s => s = (((n + pref (fun i => cntN r.length (wk k i)) i : Nat) : Int), -(k : Int) + i)) (fun t => t = ((n + pref (fun i => cntN r.length (wk k i)) ((x + (k : Int)).toNat) : Nat) : Int)) (x + (k : Int)).toNat (by
        rintro i s hi rfl
        simp only [impl_indexPulses_s2, decide_eq_true_eq]
        rcases Nat.lt_or_ge i (x + (k : Int)).toNat with q | q
        · left
          have c := cnt_le' (d := r.length) (k := wk k i) (by omega) (Nat.le_trans (wk_le (by omega)) hk)
          have b2 := pref_mono (f := fun i => cntN r.length (wk k i)) (m := i) (n := (x + (k : Int)).toNat) hi
          have w2 := wk_le (k := k) (i := i) (by omega)
          rw [if_pos (by omega), abs_eq (by omega), wk_abs (by omega), w64 (n := (wk k i : Int)) (by omega), count_impl (by omega) (by omega) (by omega)]
          simp only [Option.bind_some]
          rw [w64 (by omega), w64 (by omega)]
          exact ⟨q, _, rfl, by simp only [pref, Prod.mk.injEq]; omega⟩
        · right
          obtain rfl : i = (x + (k : Int)).toNat := by omega
          rw [if_neg (by omega)]
          exact ⟨_, rfl, rfl⟩) (s := ((n : Int), 0 - (k : Int))) (by simp [pref])
      exact h1
    rw [loopO_eq, loopO_eq (step := impl_indexPulses_s3 _ _ _)]
    simp only [spec_l11Index_s3, impl_indexPulses_s3, decide_eq_true_eq]
    rw [if_pos (by omega), if_pos (by omega), w64 (n := 0 - (k : Int)) (by omega), getI_nat, hg]
    simp only [Option.bind_some]
    rw [w1, in1, in2]
    simp only [Option.bind_some]
    rw [sabs_eq (by omega), abs_eq (by omega), w64 (n := (k : Int) - (x.natAbs : Int)) (by omega), w64 (n := (pre.length : Int) + 1) (by omega)]
    have := index_same hl r (pre ++ [x]) (k - x.natAbs) (n + pref (fun i => cntN r.length (wk k i)) ((x + (k : Int)).toNat)) (by rw [h]; simp) (by omega) (by omega) (by rw [idxN] at hb; omega)
    rw [show (k : Int) - (x.natAbs : Int) = ((k - x.natAbs : Nat) : Int) from by omega]
    have el : ((pre ++ [x]).length : Int) = (pre.length : Int) + 1 := by simp
    rw [el] at this
    rw [idxN, ← Nat.add_assoc]
    exact this
theorem indexes_same {l : List Int} {k : Int} (hl : l.length ≤ 4) (hk : 0 ≤ k ∧ k ≤ 8) (hn : (nrm l : Int) ≤ k) : ∃ x : Int, spec_l11Index l k = some x ∧ impl_indexPulses 64 l k = some x ∧ 0 ≤ x ∧ x ≤ 65535 := by
  obtain ⟨a, b⟩ := index_same hl l [] k.toNat 0 rfl (by omega) (by omega) (by have c := idx_le (l := l) (k := k.toNat) hl (by omega) (by omega); omega)
  have c := idx_le (l := l) (k := k.toNat) hl (by omega) (by omega)
  rw [Int.toNat_of_nonneg hk.1] at a b
  refine ⟨((0 + idxN k.toNat l : Nat) : Int), ?_, ?_, by omega, ?_⟩
  · unfold spec_l11Index
    rw [show (0 : Int) = ((0 : Nat) : Int) from rfl]
    exact (congrArg (fun o => Option.bind o _) a).trans rfl
  · unfold impl_indexPulses
    exact (congrArg (fun o => Option.bind o _) b).trans rfl
  · omega
theorem fitsP_same {r x : Int} (hr : 0 ≤ r ∧ r ≤ 47) (hx : -131072 ≤ x ∧ x ≤ 131072) : spec_l14Fits x r = some (fitsB r x) ∧ ∃ v, impl_Restore x r = some ⟨if fitsB r x = true then 0 else 3, v⟩ := by
  obtain ⟨a, b, c, d⟩ := step_eq hr
  have h1 : x * stepv r ≤ 131072 * stepv r := Int.mul_le_mul_of_nonneg_right hx.2 (by omega)
  have h2 : (-131072) * stepv r ≤ x * stepv r := Int.mul_le_mul_of_nonneg_right hx.1 (by omega)
  refine ⟨?_, ?_⟩
  · unfold spec_l14Fits spec_l9Coef
    rw [a]
    simp only [Option.bind_some]
    rw [spec_l1In_eq, w64 (by omega)]; rfl
  · unfold impl_Restore impl_Restore_u1 impl_isRung impl_isCoef impl_within
    rw [b]
    simp only [impl_inRange_eq, Option.bind_some]
    rw [w64 (n := 0 - 16777216) (by omega), w64 (n := x * stepv r) (by omega), if_pos (decide_eq_true hr), if_pos (decide_eq_true (by omega))]
    simp only [Option.bind_some]
    unfold fitsB
    by_cases hf : -16777216 ≤ x * stepv r ∧ x * stepv r ≤ 16777216
    · exact ⟨_, by simp [hf]; rfl⟩
    · have : (decide (0 - 16777216 ≤ x * stepv r ∧ x * stepv r ≤ 16777216)) = false := decide_eq_false (by omega)
      rw [this, decide_eq_false hf]
      exact ⟨0, rfl⟩
def badLowP (sp r x : Int) : Bool := !(decide (-30000 ≤ x ∧ x ≤ 30000) && fitsB r ((sp + 1) * x))
theorem spread_mul {sp x : Int} (hs : 0 ≤ sp ∧ sp ≤ 2) (hx : -30000 ≤ x ∧ x ≤ 30000) : -131072 ≤ (sp + 1) * x ∧ (sp + 1) * x ≤ 131072 ∧ IntKind.i64.wrap (IntKind.i64.wrap (sp + 1) * x) = (sp + 1) * x := by
  rw [w64 (n := sp + 1) (by omega)]
  have : sp = 0 ∨ sp = 1 ∨ sp = 2 := by omega
  rcases this with rfl | rfl | rfl
  · rw [w64 (by omega)]; omega
  · rw [w64 (by omega)]; omega
  · rw [w64 (by omega)]; omega
theorem lowP_spec {a1 a2 r a4 sp a6 : Int} {a8 : List Int} {a9 : List (List Int)} {a10 : List SBand} {x : Int} {l : List Int} {i : Nat} (hr : 0 ≤ r ∧ r ≤ 47) (hs : 0 ≤ sp ∧ sp ≤ 2) (hx : l[i]? = some x) : spec_PartFault_u3 a1 a2 r a4 sp a6 l a8 a9 a10 (i : Int) = some (badLowP sp r x) := by
  unfold spec_PartFault_u3 spec_l10Index badLowP
  simp only [getI_nat, hx, Option.bind_some, spec_l1In_eq]
  by_cases h : -30000 ≤ x ∧ x ≤ 30000
  · obtain ⟨q1, q2, q3⟩ := spread_mul hs h
    rw [if_pos (decide_eq_true h), q3, (fitsP_same hr ⟨q1, q2⟩).1, decide_eq_true h]; rfl
  · rw [decide_eq_false h]; rfl
theorem lowP_impl {b1 b2 r b4 sp b6 : Int} {b7 b8 : List Int} {b9 : List (List Int)} {x : Int} (hr : 0 ≤ r ∧ r ≤ 47) (hs : 0 ≤ sp ∧ sp ≤ 2) : impl_PartFault_1 x b1 b2 r b4 sp b6 b7 b8 b9 = some (badLowP sp r x) := by
  unfold impl_PartFault_1 impl_PartFault_1_u1 impl_isIndexOf impl_within badLowP
  simp only [impl_inRange_eq]
  rw [w64 (n := 0 - 30000) (by omega)]
  by_cases h : -30000 ≤ x ∧ x ≤ 30000
  · obtain ⟨q1, q2, q3⟩ := spread_mul hs h
    obtain ⟨v, hv⟩ := (fitsP_same hr ⟨q1, q2⟩).2
    rw [if_pos (decide_eq_true (by omega)), q3, hv, decide_eq_true h]
    cases fitsB r ((sp + 1) * x) <;> rfl
  · rw [if_neg (by simp; omega), decide_eq_false h]; rfl
theorem lowsP_spec {a1 a2 r a4 sp a6 : Int} {a8 : List Int} {a9 : List (List Int)} {a10 : List SBand} {l : List Int} (hr : 0 ≤ r ∧ r ≤ 47) (hs : 0 ≤ sp ∧ sp ≤ 2) (hl : (l.length : Int) ≤ maxI) : loopO (spec_PartFault_s4 a1 a2 r a4 sp a6 l a8 a9 a10) 0 = some (if l.any (badLowP sp r) = true then .inr () else .inl ()) := by
  refine any_loop (badLowP sp r) (fun i x hx => ?_) ?_ hl
  · have hi : i < l.length := (List.getElem?_eq_some_iff.1 hx).1
    simp only [spec_PartFault_s4, decide_eq_true_eq]
    rw [if_pos (by omega), lowP_spec hr hs hx]
    simp only [Option.bind_some]
    split <;> rfl
  · simp only [spec_PartFault_s4, decide_eq_true_eq]
    rw [if_neg (by omega)]
theorem lowsP_impl {b1 b2 r b4 sp b6 : Int} {b7 b8 : List Int} {b9 : List (List Int)} {l : List Int} (hr : 0 ≤ r ∧ r ≤ 47) (hs : 0 ≤ sp ∧ sp ≤ 2) (hl : (l.length : Int) ≤ maxI) : slices_ContainsFunc_int64_impl_PartFault_1 l b1 b2 r b4 sp b6 b7 b8 b9 = some (l.any (badLowP sp r)) := by
  unfold slices_ContainsFunc_int64_impl_PartFault_1 slices_IndexFunc_int64_impl_PartFault_1
  obtain ⟨t, h1, h2⟩ := find_loop (l := l) (badLowP sp r) (step := slices_IndexFunc_int64_impl_PartFault_1_s1 l b1 b2 r b4 sp b6 b7 b8 b9 (l.length : Int)) (fun i x hx => by
      have hi : i < l.length := (List.getElem?_eq_some_iff.1 hx).1
      simp only [slices_IndexFunc_int64_impl_PartFault_1_s1, decide_eq_true_eq]
      rw [if_pos (by omega), getI_nat, hx]
      simp only [Option.bind_some, lowP_impl hr hs]
      split <;> rfl) (by
      simp only [slices_IndexFunc_int64_impl_PartFault_1_s1, decide_eq_true_eq]
      rw [if_neg (by omega)]) hl
  rw [h1]
  simp only [Option.bind_some, h2]
/-- The lists of a part within what the law looks at. -/
structure PartLen (f : SPart) : Prop where
  lows : (f.Lows.length : Int) ≤ 1048576
  gains : (f.Gains.length : Int) ≤ 1048576
  pulses : (f.Pulses.length : Int) ≤ 1048576
  pulse : ∀ x ∈ f.Pulses, (x.length : Int) ≤ 1048576
/-- Whether a part carries the pulses of a band. -/
def mine (f : SPart) (i : Nat) : Bool := (IntKind.i64.wrap (f.Number + (i : Int))).tmod 2 == f.Side
structure PartOk (f : SPart) : Prop where
  number : 0 ≤ f.Number ∧ f.Number ≤ 9999
  size : spec_SizeFault f.Size = 0
  rung : 0 ≤ f.Rung ∧ f.Rung ≤ 47
  mask : 0 ≤ f.Mask ∧ f.Mask ≤ 3
  spread : 0 ≤ f.Spread ∧ f.Spread ≤ 2
  side : 0 ≤ f.Side ∧ f.Side ≤ 1
  nlow : (f.Lows.length : Int) = f.Size.tdiv 2
  low : ∀ x ∈ f.Lows, badLowP f.Spread f.Rung x = false
  ngain : f.Gains.length = (spec_l13Bands f.Size).length
  gain : ∀ x ∈ f.Gains, badGain (gr f.Rung f.Mask) x = false
  npul : f.Pulses.length = (spec_l13Bands f.Size).length
  pul : ∀ (j : Nat) (b : SBand) (x : List Int), (spec_l13Bands f.Size)[j]? = some b → f.Pulses[j]? = some x → if mine f j = true then (x.length : Int) = b.Dim ∧ InB (8 - 2 * f.Mask) x ∧ (nrm x : Int) = 8 - 2 * f.Mask else x = []
theorem part_same {f : SPart} (hl : PartLen f) : ∃ c, spec_PartFault f = some c ∧ impl_PartFault f = some c ∧ (c = 0 → PartOk f) := by
  obtain ⟨c, h1, h2, h3⟩ := headF_same (n := f.Number) (s := f.Size) (r := f.Rung) (m := f.Mask) (p := f.Spread)
  have hf2 : ∀ a b : Int, impl_first [a, b] = some (firstL [a, b]) := fun a b => impl_first_eq (by simp [maxI])
  unfold spec_PartFault impl_PartFault impl_isSide
  rw [h1, h2, spec_l1In_eq, impl_inRange_eq]
  simp only [Option.bind_some, hf2, impl_codeIf_eq]
  by_cases hc : c = 0
  · subst hc
    obtain ⟨z0, z1, z2, z3, z4⟩ := h3 rfl
    obtain ⟨g1, g2, g3⟩ := gr_ok z2 z3
    have n2 : IntKind.i64.wrap (f.Size.tdiv 2) = f.Size.tdiv 2 := by
      have : f.Size = 4 ∨ f.Size = 8 ∨ f.Size = 16 := by
        by_cases h1 : f.Size = 4
        · exact .inl h1
        by_cases h2 : f.Size = 8
        · exact .inr (.inl h2)
        by_cases h3 : f.Size = 16
        · exact .inr (.inr h3)
        simp [spec_SizeFault, spec_SizeFault_u1, h1, h2, h3] at z1
      rw [Int.tdiv_eq_ediv_of_nonneg (by omega), w64 (by omega)]
    have ll := hl.lows
    have lg := hl.gains
    by_cases hside : 0 ≤ f.Side ∧ f.Side ≤ 1
    · rw [decide_eq_true hside]
      have e00 : firstL [0, 0] = 0 := rfl
      simp only [bne_self_eq_false, Bool.false_eq_true, if_false, Bool.not_true, if_true, e00, beq_self_eq_true, impl_PartFault_u1]
      rw [lowsP_impl z2 z4 (by unfold maxI; omega), gains_impl z2 z3 (by unfold maxI; omega)]
      simp only [spec_PartFault_u8]
      rw [lowsP_spec z2 z4 (by unfold maxI; omega), g1]
      simp only [Option.bind_some, hf2, bands_same]
      have ec : impl_countFault f.Size f.Lows f.Gains f.Pulses = if spec_PartFault_u1 f.Number f.Size f.Rung f.Mask f.Spread f.Side f.Lows f.Gains f.Pulses (spec_l13Bands f.Size) = true then 2 else 0 := by
        unfold impl_countFault impl_countFault_u1 spec_PartFault_u1 impl_halfOf
        simp only [impl_codeIf_eq, bands_same]
        by_cases q1 : (f.Lows.length : Int) = IntKind.i64.wrap (f.Size.tdiv 2) <;> by_cases q2 : (f.Gains.length : Int) = ((spec_l13Bands f.Size).length : Int) <;> simp [q1, q2]
      rw [ec]
      cases hu : spec_PartFault_u1 f.Number f.Size f.Rung f.Mask f.Spread f.Side f.Lows f.Gains f.Pulses (spec_l13Bands f.Size) with
      | true => exact ⟨2, rfl, rfl, fun h => by simp at h⟩
      | false =>
        simp only [Bool.false_eq_true, if_false, bne_self_eq_false]
        cases hlow : f.Lows.any (badLowP f.Spread f.Rung) with
        | true => exact ⟨3, rfl, rfl, fun h => by simp at h⟩
        | false =>
          simp only [Bool.false_eq_true, if_false, Sum.elim_inl, Option.bind_some]
          rw [gains_spec g3 (by unfold maxI; omega)]
          cases hgain : f.Gains.any (badGain (gr f.Rung f.Mask)) with
          | true => exact ⟨3, rfl, rfl, fun h => by simp at h⟩
          | false =>
            simp only [Bool.not_false, Bool.false_eq_true, if_false, if_true, Option.bind_some, e00, bne_self_eq_false]
            have hcnt : (f.Lows.length : Int) = f.Size.tdiv 2 ∧ f.Gains.length = (spec_l13Bands f.Size).length ∧ f.Pulses.length = (spec_l13Bands f.Size).length := by
              unfold spec_PartFault_u1 at hu
              rw [n2] at hu
              by_cases q1 : (f.Lows.length : Int) = f.Size.tdiv 2 <;> by_cases q2 : (f.Gains.length : Int) = ((spec_l13Bands f.Size).length : Int) <;> simp [q1, q2] at hu
              exact ⟨q1, by omega, by omega⟩
            have hbl := bands_len (n := f.Size)
            obtain ⟨t, s1, s2, s3⟩ := loop_same (step1 := spec_PartFault_s7 f.Number f.Size f.Rung f.Mask f.Spread f.Side f.Lows f.Gains f.Pulses (spec_l13Bands f.Size)) (step2 := impl_PartFault_s4 f.Number f.Size f.Rung f.Mask f.Spread f.Side f.Lows f.Gains f.Pulses (spec_l13Bands f.Size) ((spec_l13Bands f.Size).length : Int))
                (fun i s => s = (i : Int) ∧ ∀ (j : Nat) (b : SBand) (x : List Int), j < i → (spec_l13Bands f.Size)[j]? = some b → f.Pulses[j]? = some x → if mine f j = true then (x.length : Int) = b.Dim ∧ InB (8 - 2 * f.Mask) x ∧ (nrm x : Int) = 8 - 2 * f.Mask else x = [])
                (fun t => (∃ c, t = .inr c ∧ c ≠ 0) ∨ (t = .inl () ∧ ∀ (j : Nat) (b : SBand) (x : List Int), (spec_l13Bands f.Size)[j]? = some b → f.Pulses[j]? = some x → if mine f j = true then (x.length : Int) = b.Dim ∧ InB (8 - 2 * f.Mask) x ∧ (nrm x : Int) = 8 - 2 * f.Mask else x = [])) (spec_l13Bands f.Size).length (by
              rintro i s hi ⟨rfl, hj⟩
              rcases Nat.lt_or_ge i (spec_l13Bands f.Size).length with hq | hq
              · obtain ⟨b, hb, _⟩ := get_lt hq
                obtain ⟨x, hx, mx⟩ := get_lt (l := f.Pulses) (i := i) (by omega)
                have wm : IntKind.i64.wrap (8 - IntKind.i64.wrap (2 * f.Mask)) = 8 - 2 * f.Mask := by rw [w64 (n := 2 * f.Mask) (by omega), w64 (by omega)]
                obtain ⟨c, p1, p2, p3⟩ := pulsesF_same (l := x) (k := 8 - 2 * f.Mask) (by omega) (hl.pulse x mx)
                have m1 : spec_l15Mine (SPart.mk f.Number f.Size f.Rung f.Mask f.Spread f.Side f.Lows f.Gains f.Pulses) (i : Int) = mine f i := rfl
                have m2 : impl_Part_owns (SPart.mk f.Number f.Size f.Rung f.Mask f.Spread f.Side f.Lows f.Gains f.Pulses) (i : Int) = mine f i := rfl
                have wi : IntKind.i64.wrap ((i : Int) + 1) = (i : Int) + 1 := w64 (by omega)
                have r1 : spec_PartFault_s7 f.Number f.Size f.Rung f.Mask f.Spread f.Side f.Lows f.Gains f.Pulses (spec_l13Bands f.Size) (i : Int) = some (if (if mine f i = true then (if (x.length : Int) ≠ b.Dim then 2 else c) else if 0 < x.length then 1 else 0) ≠ 0 then .inr (.inr (if mine f i = true then (if (x.length : Int) ≠ b.Dim then 2 else c) else if 0 < x.length then 1 else 0)) else .inl ((i : Int) + 1)) := by
                  simp only [spec_PartFault_s7, spec_PartFault_u6, decide_eq_true_eq, m1]
                  rw [if_pos (by omega), wm, wi]
                  simp only [getI_nat, hx, hb, Int.toNat_natCast, Option.bind_some, p1]
                  cases mine f i
                  · by_cases q0 : 0 < x.length
                    · simp [q0]
                    · simp [q0]
                  · by_cases q1 : (x.length : Int) = b.Dim
                    · by_cases q2 : c = 0
                      · simp [q1, q2]
                      · simp [q1, q2]
                    · simp [q1]
                have r2 : impl_PartFault_s4 f.Number f.Size f.Rung f.Mask f.Spread f.Side f.Lows f.Gains f.Pulses (spec_l13Bands f.Size) ((spec_l13Bands f.Size).length : Int) (i : Int) = some (if (if mine f i = true then (if (x.length : Int) ≠ b.Dim then 2 else c) else if 0 < x.length then 1 else 0) ≠ 0 then .inr (.inr (if mine f i = true then (if (x.length : Int) ≠ b.Dim then 2 else c) else if 0 < x.length then 1 else 0)) else .inl ((i : Int) + 1)) := by
                  simp only [impl_PartFault_s4, impl_PartFault_u3, impl_bandFault, impl_pulsesFor, decide_eq_true_eq, m2]
                  rw [if_pos (by omega), wm, wi]
                  simp only [getI_nat, hx, hb, Int.toNat_natCast, Option.bind_some, p2, hf2, impl_codeIf_eq, firstL]
                  cases mine f i
                  · by_cases q0 : 0 < x.length
                    · simp [q0]
                    · simp [q0]
                  · by_cases q1 : (x.length : Int) = b.Dim
                    · by_cases q2 : c = 0
                      · simp [q1, q2]
                      · simp [q1, q2]
                    · simp [q1]
                rw [r1, r2]
                refine ⟨rfl, ?_⟩
                by_cases he : (if mine f i = true then (if (x.length : Int) ≠ b.Dim then 2 else c) else if 0 < x.length then 1 else 0) ≠ 0
                · rw [if_pos he]
                  exact .inr ⟨_, rfl, .inl ⟨_, rfl, he⟩⟩
                · rw [if_neg he]
                  refine .inl ⟨hq, _, rfl, by simp, fun j b' x' hj' hb' hx' => ?_⟩
                  rcases Nat.lt_or_ge j i with hji | hji
                  · exact hj j b' x' hji hb' hx'
                  · obtain rfl : j = i := by omega
                    rw [hb] at hb'; rw [hx] at hx'
                    obtain rfl := Option.some.inj hb'; obtain rfl := Option.some.inj hx'
                    cases hm : mine f j
                    · rw [hm] at he
                      simp only [Bool.false_eq_true, if_false] at he ⊢
                      have : ¬ 0 < x.length := fun q => he (by rw [if_pos q]; decide)
                      exact List.eq_nil_of_length_eq_zero (by omega)
                    · rw [hm] at he
                      simp only [if_true] at he ⊢
                      by_cases q1 : (x.length : Int) = b.Dim
                      · rw [if_neg (by simp [q1])] at he
                        obtain ⟨w1, w2⟩ := p3 (Classical.byContradiction he)
                        exact ⟨q1, w1, w2⟩
                      · rw [if_pos q1] at he
                        exact absurd (by decide) he
              · have r1 : spec_PartFault_s7 f.Number f.Size f.Rung f.Mask f.Spread f.Side f.Lows f.Gains f.Pulses (spec_l13Bands f.Size) (i : Int) = some (.inr (.inl ())) := by
                  simp only [spec_PartFault_s7, decide_eq_true_eq]
                  rw [if_neg (by omega)]
                have r2 : impl_PartFault_s4 f.Number f.Size f.Rung f.Mask f.Spread f.Side f.Lows f.Gains f.Pulses (spec_l13Bands f.Size) ((spec_l13Bands f.Size).length : Int) (i : Int) = some (.inr (.inl ())) := by
                  simp only [impl_PartFault_s4, decide_eq_true_eq]
                  rw [if_neg (by omega)]
                rw [r1, r2]
                exact ⟨rfl, .inr ⟨_, rfl, .inr ⟨rfl, fun j b x hb hx => hj j b x (by have := (List.getElem?_eq_some_iff.1 hb).1; omega) hb hx⟩⟩⟩) (s := 0) ⟨rfl, fun j b x h => by omega⟩
            rw [s1, s2]
            rcases s3 with ⟨c, rfl, hc⟩ | ⟨rfl, hp⟩
            · exact ⟨c, rfl, rfl, fun h => absurd h hc⟩
            · refine ⟨0, rfl, rfl, fun _ => ⟨z0, z1, z2, z3, z4, hside, hcnt.1, fun x hx => ?_, hcnt.2.1, fun x hx => ?_, hcnt.2.2, hp⟩⟩
              · have := List.any_eq_false.1 hlow x hx; simpa using this
              · have := List.any_eq_false.1 hgain x hx; simpa using this
    · rw [decide_eq_false hside]
      exact ⟨3, rfl, rfl, fun h => by simp at h⟩
  · have : (c != 0) = true := by simp [hc]
    rw [this]
    have e1 : ∀ z : Int, firstL [c, z] = c := fun z => by simp [firstL, hc]
    rw [e1]
    have e2 : (c == 0) = false := by simp [hc]
    simp only [if_true, impl_PartFault_u1, e2, Bool.false_eq_true, if_false, this]
    exact ⟨c, rfl, rfl, fun h => absurd h hc⟩
theorem nn_byte {n : Int} (h : 0 ≤ n ∧ n < 65536) : IntKind.u8.wrap (IntKind.i64.wrap (n.tdiv 256)) = n / 256 ∧ IntKind.u8.wrap (n.tmod 256) = n % 256 := by
  rw [Int.tdiv_eq_ediv_of_nonneg h.1, Int.tmod_eq_emod_of_nonneg h.1, w64 (by omega), u8_mod, u8_mod]
  omega
/-- What a packet's values begin with. -/
def baseV (p : SPart) (intra : Bool) (prev : SAnchor) : List Int := if intra = true then p.Rung :: p.Gains else (p.Rung - prev.Rung) :: List.zipWith (fun a b => a - b) p.Gains prev.Gains
structure PrevOk (p : SPart) (intra : Bool) (prev : SAnchor) : Prop where
  len : intra = false → prev.Gains.length = p.Gains.length
  rung : intra = false → 0 ≤ prev.Rung ∧ prev.Rung ≤ 47
  gain : intra = false → ∀ x ∈ prev.Gains, 0 ≤ x ∧ x ≤ 65535
theorem gain_ok {r x : Int} (h : badGain r x = false) : 0 ≤ x ∧ x ≤ 65535 := by
  unfold badGain at h
  by_cases q : 0 ≤ x ∧ x ≤ 65535
  · exact q
  · rw [decide_eq_false q] at h; simp at h
theorem lowP_ok {s r x : Int} (h : badLowP s r x = false) : -30000 ≤ x ∧ x ≤ 30000 := by
  unfold badLowP at h
  by_cases q : -30000 ≤ x ∧ x ≤ 30000
  · exact q
  · rw [decide_eq_false q] at h; simp at h
theorem base_same {p : SPart} {intra : Bool} {prev : SAnchor} {a1 a2 : Int} (hp : PartOk p) (hv : PrevOk p intra prev) :
    spec_l16Values_u2 (p.Rung :: p.Gains) p.Number p.Size p.Rung p.Mask p.Spread p.Side p.Lows p.Gains p.Pulses prev.Known prev.Number prev.Rung prev.Gains (!intra) = some (baseV p intra prev) ∧
    impl_valuesOf_u2 64 p.Number p.Size p.Rung p.Mask p.Spread p.Side p.Lows p.Gains p.Pulses prev.Known prev.Number prev.Rung prev.Gains (p.Rung :: p.Gains) (!intra) = some (baseV p intra prev) ∧
    (baseV p intra prev).length = 1 + p.Gains.length ∧ ∀ x ∈ baseV p intra prev, -65535 ≤ x ∧ x ≤ 65535 := by
  have hg : ∀ x ∈ p.Gains, 0 ≤ x ∧ x ≤ 65535 := fun x hx => gain_ok (hp.gain x hx)
  have hr := hp.rung
  have hn := hp.ngain
  have hb := bands_len (n := p.Size)
  unfold spec_l16Values_u2 impl_valuesOf_u2 baseV
  cases intra with
  | true =>
    simp only [Bool.not_true, Bool.false_eq_true, if_false, if_true]
    refine ⟨trivial, trivial, by simp; omega, fun x hx => ?_⟩
    rcases List.mem_cons.1 hx with rfl | hx
    · omega
    · have := hg x hx; omega
  | false =>
    have v1 := hv.len rfl
    have v2 := hv.rung rfl
    have v3 := hv.gain rfl
    obtain ⟨pn, ps, pr, pm, psp, psd, pl, pg, pp⟩ := p
    obtain ⟨vk, vn, vr, vg⟩ := prev
    simp only at hg hr hn hb v1 v2 v3 ⊢
    simp only [Bool.not_false, if_true, Bool.false_eq_true, if_false]
    have e0 : getI (pr :: pg) 0 = some pr := rfl
    have e1 : (pr :: pg)[(0 : Int).toNat]? = some pr := rfl
    have e2 : (pr :: pg).set (0 : Int).toNat (IntKind.i64.wrap (pr - vr)) = (pr - vr) :: pg := by rw [w64 (by omega)]; rfl
    rw [e0, e1]
    simp only [Option.bind_some]
    rw [e2]
    have h12 : pg.length = 1 ∨ pg.length = 2 := by omega
    rcases h12 with h1 | h2
    · obtain ⟨g, rfl⟩ := List.length_eq_one_iff.1 h1
      obtain ⟨h, rfl⟩ := List.length_eq_one_iff.1 (v1.trans h1)
      have g0 := hg g (by simp)
      have h0 := v3 h (by simp)
      have wg : IntKind.i64.wrap (g - h) = g - h := w64 (by omega)
      have s1 : spec_l16Values_s1 pn ps pr pm psp psd pl [g] pp vk vn vr [h] ([pr - vr, g], 0) = some (.inl ([pr - vr, IntKind.i64.wrap (g - h)], 1)) := rfl
      have s2 : ∀ l, spec_l16Values_s1 pn ps pr pm psp psd pl [g] pp vk vn vr [h] (l, 1) = some (.inr l) := fun _ => rfl
      have t1 : impl_valuesOf_s1 64 pn ps pr pm psp psd pl [g] pp [h] ([h].length : Int) ([pr - vr, g], 0) = some (.inl ([pr - vr, IntKind.i64.wrap (g - h)], 1)) := rfl
      have t2 : ∀ l, impl_valuesOf_s1 64 pn ps pr pm psp psd pl [g] pp [h] ([h].length : Int) (l, 1) = some (.inr l) := fun _ => rfl
      refine ⟨?_, ?_, by simp, fun x hx => ?_⟩
      · rw [loopO_eq, s1]; simp only []; rw [loopO_eq, s2, wg]; rfl
      · rw [loopO_eq, t1]; simp only []; rw [loopO_eq, t2, wg]; rfl
      · simp at hx; omega
    · obtain ⟨g, g', rfl⟩ : ∃ a b, pg = [a, b] := by
        match pg, h2 with
        | [a, b], _ => exact ⟨a, b, rfl⟩
      obtain ⟨h, h', rfl⟩ : ∃ a b, vg = [a, b] := by
        match vg, v1.trans h2 with
        | [a, b], _ => exact ⟨a, b, rfl⟩
      have g0 := hg g (by simp)
      have h0 := v3 h (by simp)
      have g0' := hg g' (by simp)
      have h0' := v3 h' (by simp)
      have wg : IntKind.i64.wrap (g - h) = g - h := w64 (by omega)
      have wg' : IntKind.i64.wrap (g' - h') = g' - h' := w64 (by omega)
      have s1 : spec_l16Values_s1 pn ps pr pm psp psd pl [g, g'] pp vk vn vr [h, h'] ([pr - vr, g, g'], 0) = some (.inl ([pr - vr, IntKind.i64.wrap (g - h), g'], 1)) := rfl
      have s2 : ∀ y, spec_l16Values_s1 pn ps pr pm psp psd pl [g, g'] pp vk vn vr [h, h'] ([pr - vr, y, g'], 1) = some (.inl ([pr - vr, y, IntKind.i64.wrap (g' - h')], 2)) := fun _ => rfl
      have s3 : ∀ l, spec_l16Values_s1 pn ps pr pm psp psd pl [g, g'] pp vk vn vr [h, h'] (l, 2) = some (.inr l) := fun _ => rfl
      have t1 : impl_valuesOf_s1 64 pn ps pr pm psp psd pl [g, g'] pp [h, h'] ([h, h'].length : Int) ([pr - vr, g, g'], 0) = some (.inl ([pr - vr, IntKind.i64.wrap (g - h), g'], 1)) := rfl
      have t2 : ∀ y, impl_valuesOf_s1 64 pn ps pr pm psp psd pl [g, g'] pp [h, h'] ([h, h'].length : Int) ([pr - vr, y, g'], 1) = some (.inl ([pr - vr, y, IntKind.i64.wrap (g' - h')], 2)) := fun _ => rfl
      have t3 : ∀ l, impl_valuesOf_s1 64 pn ps pr pm psp psd pl [g, g'] pp [h, h'] ([h, h'].length : Int) (l, 2) = some (.inr l) := fun _ => rfl
      refine ⟨?_, ?_, by simp, fun x hx => ?_⟩
      · rw [loopO_eq, s1]; simp only []; rw [loopO_eq, s2]; simp only []; rw [loopO_eq, s3, wg, wg']; rfl
      · rw [loopO_eq, t1]; simp only []; rw [loopO_eq, t2]; simp only []; rw [loopO_eq, t3, wg, wg']; rfl
      · simp at hx; omega
theorem band_dim {n : Int} {j : Nat} {b : SBand} (h : (spec_l13Bands n)[j]? = some b) : b.Dim = 2 ∨ b.Dim = 4 := by
  unfold spec_l13Bands at h
  split at h
  · match j, h with
    | 0, h => simp at h; subst h; exact .inl rfl
    | j + 1, h => simp at h
  · split at h
    · match j, h with
      | 0, h => simp at h; subst h; exact .inl rfl
      | 1, h => simp at h; subst h; exact .inl rfl
      | j + 2, h => simp at h
    · match j, h with
      | 0, h => simp at h; subst h; exact .inr rfl
      | 1, h => simp at h; subst h; exact .inr rfl
      | j + 2, h => simp at h
theorem tdiv_half {n : Int} (h : spec_SizeFault n = 0) : (n = 4 ∧ n.tdiv 2 = 2) ∨ (n = 8 ∧ n.tdiv 2 = 4) ∨ (n = 16 ∧ n.tdiv 2 = 8) := by
  by_cases h1 : n = 4
  · subst h1; exact .inl ⟨rfl, rfl⟩
  by_cases h2 : n = 8
  · subst h2; exact .inr (.inl ⟨rfl, rfl⟩)
  by_cases h3 : n = 16
  · subst h3; exact .inr (.inr ⟨rfl, rfl⟩)
  simp [spec_SizeFault, spec_SizeFault_u1, h1, h2, h3] at h
theorem values_same {p : SPart} {intra : Bool} {prev : SAnchor} (hp : PartOk p) (hv : PrevOk p intra prev) : ∃ v, spec_l16Values p intra prev = some v ∧ impl_valuesOf 64 p intra prev = some v ∧ v.length ≤ 20 ∧ ∀ x ∈ v, -65535 ≤ x ∧ x ≤ 65535 := by
  obtain ⟨b1, b2, b3, b4⟩ := base_same (a1 := 0) (a2 := 0) hp hv
  have hb := bands_len (n := p.Size)
  have hn := hp.ngain
  have hnp := hp.npul
  have hm := hp.mask
  have hl : p.Lows.length ≤ 8 := by have := hp.nlow; rcases tdiv_half hp.size with q | q | q <;> omega
  have wm : IntKind.i64.wrap (8 - IntKind.i64.wrap (2 * p.Mask)) = 8 - 2 * p.Mask := by rw [w64 (n := 2 * p.Mask) (by omega), w64 (by omega)]
  unfold spec_l16Values impl_valuesOf
  have e1 : [p.Rung] ++ p.Gains = p.Rung :: p.Gains := rfl
  rw [e1, if_pos (okApp_8 (by simp; omega)), if_pos (okApp_8 (by simp; omega)), b1, b2]
  simp only [Option.bind_some]
  rw [if_pos (okApp_8 (by simp; omega)), if_pos (okApp_8 (by simp; omega))]
  obtain ⟨t, s1, s2, s3, s4⟩ := loop_same (step1 := spec_l16Values_s7 p.Number p.Size p.Rung p.Mask p.Spread p.Side p.Lows p.Gains p.Pulses) (step2 := impl_valuesOf_s7 64 p.Number p.Size p.Rung p.Mask p.Spread p.Side p.Lows p.Gains p.Pulses (p.Pulses.length : Int))
      (fun i s => s.2 = (i : Int) ∧ s.1.length ≤ 11 + i ∧ ∀ x ∈ s.1, -65535 ≤ x ∧ x ≤ 65535) (fun t => t.length ≤ 20 ∧ ∀ x ∈ t, -65535 ≤ x ∧ x ≤ 65535) p.Pulses.length (by
    rintro i ⟨o, c⟩ hi ⟨rfl, ho, hx⟩
    simp only at ho hx
    simp only [spec_l16Values_s7, impl_valuesOf_s7, decide_eq_true_eq]
    rcases Nat.lt_or_ge i p.Pulses.length with q | q
    · obtain ⟨x, gx, mx⟩ := get_lt q
      obtain ⟨b, gb, mb⟩ := get_lt (l := spec_l13Bands p.Size) (i := i) (by omega)
      have hq := hp.pul i b x gb gx
      have m1 : spec_l15Mine (SPart.mk p.Number p.Size p.Rung p.Mask p.Spread p.Side p.Lows p.Gains p.Pulses) (i : Int) = mine p i := rfl
      have m2 : impl_Part_owns (SPart.mk p.Number p.Size p.Rung p.Mask p.Spread p.Side p.Lows p.Gains p.Pulses) (i : Int) = mine p i := rfl
      rw [if_pos (by omega), if_pos (by omega)]
      simp only [spec_l16Values_u6, spec_l16Values_u5, impl_valuesOf_u6, impl_valuesOf_u5, impl_pulsesFor, m1, m2, getI_nat, gx, Option.bind_some, wm]
      cases hmi : mine p i with
      | false =>
        simp only [Bool.false_eq_true, if_false, Option.bind_some]
        rw [w64 (by omega)]
        exact ⟨trivial, .inl ⟨q, _, rfl, by simp, by simp only []; omega, hx⟩⟩
      | true =>
        rw [hmi] at hq
        simp only [if_true] at hq ⊢
        have bd := band_dim gb
        obtain ⟨z, z1, z2, z3, z4⟩ := indexes_same (l := x) (k := 8 - 2 * p.Mask) (by omega) (by omega) (by omega)
        rw [z1, z2]
        simp only [Option.bind_some]
        rw [if_pos (okApp_8 (by simp; omega))]
        simp only [Option.bind_some]
        rw [w64 (by omega)]
        refine ⟨trivial, .inl ⟨q, _, rfl, by simp, by simp; omega, fun y hy => ?_⟩⟩
        rcases List.mem_append.1 hy with hy | hy
        · exact hx y hy
        · simp at hy; omega
    · rw [if_neg (by omega), if_neg (by omega)]
      exact ⟨rfl, .inr ⟨_, rfl, by omega, hx⟩⟩) (s := (baseV p intra prev ++ p.Lows, 0)) ⟨by simp, by simp; omega, fun x hx => by
        rcases List.mem_append.1 hx with hx | hx
        · exact b4 x hx
        · have := lowP_ok (hp.low x hx); omega⟩
  rw [s1, s2]
  exact ⟨t, rfl, rfl, s3, s4⟩
theorem flags_same {p : SPart} {intra : Bool} : impl_flags p intra = IntKind.u8.wrap (spec_l16Flags p intra) := rfl
theorem concat_byte {ls : List (List Int)} (hn : ls.length ≤ 1000) (hl : ∀ x ∈ ls, x.length ≤ 200000) : slices_Concat_byte ls = some ls.flatten := by
  have hf : ∀ i, (ls.take i).flatten.length ≤ 200000 * i := by
    intro i
    induction i with
    | zero => simp
    | succ i ih =>
      rcases Nat.lt_or_ge i ls.length with h | h
      · rw [List.take_add_one, List.getElem?_eq_getElem h]
        have := hl ls[i] (List.getElem_mem h)
        simp only [Option.toList_some, List.flatten_append, List.length_append, List.flatten_cons, List.flatten_nil, List.append_nil]
        omega
      · rw [List.take_of_length_le (by omega)]
        rw [List.take_of_length_le h] at ih
        omega
  have hs : ∀ i (x : List Int), ls[i]? = some x → (ls.take (i + 1)).flatten = (ls.take i).flatten ++ x := fun i x hx => by
    rw [List.take_add_one, hx]; simp
  unfold slices_Concat_byte
  obtain ⟨t, h1, rfl⟩ := loop_rule (step := slices_Concat_byte_s5 ls (ls.length : Int)) (fun i s => s.2 = (i : Int) ∧ s.1 = ((ls.take i).flatten.length : Int)) (fun t => t = (ls.flatten.length : Int)) ls.length (by
    rintro i ⟨a, c⟩ hi ⟨hc, ha⟩
    simp only at hc ha
    subst hc ha
    simp only [slices_Concat_byte_s5, slices_Concat_byte_u4, slices_Concat_byte_u3, decide_eq_true_eq]
    rcases Nat.lt_or_ge i ls.length with h | h
    · left
      obtain ⟨x, hx, hm⟩ := get_lt h
      have hb := hf (i + 1)
      have hx' := hs i x hx
      have hlen : (ls.take (i + 1)).flatten.length = (ls.take i).flatten.length + x.length := by rw [hx']; simp
      rw [if_pos (by omega), getI_nat, hx]
      simp only [Option.bind_some]
      rw [w64 (n := ((ls.take i).flatten.length : Int) + x.length) (by omega), if_neg (by omega), w64 (n := (i : Int) + 1) (by omega)]
      exact ⟨h, _, rfl, by simp, by simp only []; omega⟩
    · right
      rw [if_neg (by omega)]
      refine ⟨_, rfl, ?_⟩
      rw [List.take_of_length_le h]) (s := (0, 0)) ⟨rfl, by simp⟩
  rw [h1]
  simp only [Option.bind_some]
  have htot := hf ls.length
  rw [List.take_of_length_le (Nat.le_refl _)] at htot
  unfold slices_Grow_byte
  rw [if_pos (show okGrow 1 (ls.flatten.length : Int) = true from decide_eq_true ⟨by omega, by omega, by omega⟩)]
  simp only [Option.bind_some]
  obtain ⟨t, h2, rfl⟩ := loop_rule (step := slices_Concat_byte_s6 ls (ls.length : Int)) (fun i s => s.2 = (i : Int) ∧ s.1 = (ls.take i).flatten) (fun t => t = ls.flatten) ls.length (by
    rintro i ⟨a, c⟩ hi ⟨hc, ha⟩
    simp only at hc ha
    subst hc ha
    simp only [slices_Concat_byte_s6, decide_eq_true_eq]
    rcases Nat.lt_or_ge i ls.length with h | h
    · left
      obtain ⟨x, hx, hm⟩ := get_lt h
      have hb := hf (i + 1)
      have hx' := hs i x hx
      rw [if_pos (by omega), getI_nat, hx]
      simp only [Option.bind_some]
      rw [if_pos (okApp_of (by rw [← hx']; omega)), w64 (n := (i : Int) + 1) (by omega)]
      exact ⟨h, _, rfl, by simp, by simp only []; exact hx'.symm⟩
    · right
      rw [if_neg (by omega)]
      refine ⟨_, rfl, ?_⟩
      rw [List.take_of_length_le h]) (s := ([], 0)) ⟨rfl, by simp⟩
  rw [h2]
  rfl
/-- A packet's bytes ahead of its sum. -/
noncomputable def bodyP (p : SPart) (intra : Bool) (v : List Int) : List Int := [p.Number / 256, p.Number % 256, IntKind.u8.wrap (spec_l16Flags p intra)] ++ encBytes (slotsL v)
theorem body_ok {p : SPart} {intra : Bool} {v : List Int} (hp : 0 ≤ p.Number ∧ p.Number ≤ 9999) (hl : v.length ≤ 20) (hv : ∀ x ∈ v, -65535 ≤ x ∧ x ≤ 65535) : (∀ x ∈ bodyP p intra v, 0 ≤ x ∧ x ≤ 255) ∧ (bodyP p intra v).length ≤ 100003 ∧ (encBytes (slotsL v)).length ≤ 100000 := by
  obtain ⟨g1, g2⟩ := slotsL_ok hv
  obtain ⟨_, _, q3, q4⟩ := encode_same g2 (by omega)
  have q5 := q4
  refine ⟨fun x hx => ?_, by simp [bodyP]; omega, q5⟩
  simp only [bodyP, List.mem_append, List.mem_cons, List.not_mem_nil, or_false] at hx
  rcases hx with (rfl | rfl | rfl) | hx
  · omega
  · omega
  · rw [u8_mod]; omega
  · exact q3 x hx
theorem pack_spec {p : SPart} {intra : Bool} {prev : SAnchor} {v : List Int} (hp : PartOk p) (e : spec_l16Values p intra prev = some v) (hl : v.length ≤ 20) (hv : ∀ x ∈ v, -65535 ≤ x ∧ x ≤ 65535) :
    ∃ n, spec_l16Pack p intra prev = some (bodyP p intra v ++ [n / 256, n % 256]) ∧ impl_crcOf (bodyP p intra v) = some n ∧ 0 ≤ n ∧ n < 65536 := by
  obtain ⟨o1, o2, o3⟩ := body_ok (intra := intra) hp.number hl hv
  obtain ⟨_, v2⟩ := encodeValues_ok (l := v) (by omega) hv
  obtain ⟨n, c1, c2, c3, c4⟩ := crc_same o1 (by unfold maxI; omega)
  obtain ⟨w1, w2⟩ := nn_byte (n := p.Number) (by have := hp.number; omega)
  refine ⟨n, ?_, c2, c3, c4⟩
  unfold spec_l16Pack
  rw [e]
  simp only [Option.bind_some, v2, w1, w2]
  have eb : [p.Number / 256, p.Number % 256, IntKind.u8.wrap (spec_l16Flags p intra)] ++ encBytes (slotsL v) = bodyP p intra v := rfl
  rw [eb, if_pos (okApp_of (by omega)), seal_spec c1 ⟨c3, c4⟩ (by omega)]
  rfl
theorem pack_impl {p : SPart} {intra : Bool} {prev : SAnchor} {v : List Int} {n : Int} (hp : PartOk p) (h0 : impl_PartFault p = some 0) (ha : impl_AnchorFault prev = some 0) (hi : intra = false → impl_Anchor_precedes prev p.Number p.Size = true) (e : impl_valuesOf 64 p intra prev = some v) (hl : v.length ≤ 20) (hv : ∀ x ∈ v, -65535 ≤ x ∧ x ≤ 65535) (hc : impl_crcOf (bodyP p intra v) = some n) (hn : 0 ≤ n ∧ n < 65536) :
    impl_PackPart 64 p intra prev = some (if (bodyP p intra v).length > 158 then ⟨2, []⟩ else ⟨0, bodyP p intra v ++ [n / 256, n % 256]⟩) := by
  obtain ⟨o1, o2, o3⟩ := body_ok (intra := intra) hp.number hl hv
  obtain ⟨v1, _⟩ := encodeValues_ok (l := v) (by omega) hv
  have hf2 : ∀ a b : Int, impl_first [a, b] = some (firstL [a, b]) := fun a b => impl_first_eq (by simp [maxI])
  have hu : impl_PackPart_u1 64 p.Number p.Size p.Rung p.Mask p.Spread p.Side p.Lows p.Gains p.Pulses prev.Known prev.Number prev.Rung prev.Gains intra = (intra, false) := by
    unfold impl_PackPart_u1
    cases intra with
    | true => rfl
    | false => simp only [Bool.false_eq_true, if_false]; rw [show (SAnchor.mk prev.Known prev.Number prev.Rung prev.Gains) = prev from rfl, hi rfl]; rfl
  unfold impl_PackPart
  rw [h0, ha]
  have e00 : firstL [0, 0] = 0 := rfl
  simp only [Option.bind_some, hf2, e00, bne_self_eq_false, Bool.false_eq_true, if_false, hu, e, v1]
  rw [two_bytes (by have := hp.number; omega), flags_same, concat_byte (by simp) (by simp; omega)]
  have eb : ([[p.Number / 256, p.Number % 256], [IntKind.u8.wrap (spec_l16Flags p intra)], encBytes (slotsL v)] : List (List Int)).flatten = bodyP p intra v := by simp [bodyP]
  simp only [Option.bind_some]
  rw [eb]
  unfold impl_SealBytes
  by_cases h : (bodyP p intra v).length > 158
  · rw [if_pos (decide_eq_true (by omega)), if_pos h]; rfl
  · rw [if_neg (by simp; omega), if_neg h, hc]
    simp only [Option.bind_some]
    rw [two_bytes hn, concat_byte (by simp) (by simp; omega)]
    simp
theorem l4Decode_same {d : List Int} {N : Nat} (hb : ∀ x ∈ d, 0 ≤ x ∧ x ≤ 255) (hd : d.length ≤ 600) (hN : N ≤ 64) : ∃ out ok, spec_l4Decode d (N : Int) = some (out, ok) ∧ impl_DecodeValues d (N : Int) = some (if ok = true then ⟨0, out⟩ else ⟨5, []⟩) ∧ out.length = N ∧ (ok = true → ∀ x ∈ out, -65535 ≤ x ∧ x ≤ 65535) := by
  have h6 : ¬ (d.length : Int) > 600 := by omega
  have hn : 0 ≤ (N : Int) ∧ (N : Int) ≤ 64 := by omega
  unfold impl_DecodeValues
  rw [impl_first_eq (by simp [maxI]), impl_inRange_eq]
  simp only [Option.bind_some, firstL, impl_codeIf_eq, h6, hn, decide_false, decide_true, Bool.false_eq_true, if_false, Bool.not_true, ne_eq, not_true, bne_self_eq_false, and_self]
  obtain ⟨b0, b1⟩ := byteAt_ok (l := d) (a := 0) hb
  obtain ⟨c0, c1⟩ := byteAt_ok (l := d) (a := 1) hb
  obtain ⟨e0, e1⟩ := byteAt_ok (l := d) (a := 2) hb
  have cp : spec_l1Copy d = some d := by unfold spec_l1Copy; rw [if_pos (okApp_of (by omega))]
  have hst : ∃ r, spec_l3Start d = some ⟨d, 3, r, 16777216⟩ ∧ 0 ≤ r ∧ r ≤ 16777215 := by
    unfold spec_l3Start
    simp only [byte_spec hb (show (0 : Int) ≤ 0 by omega), byte_spec hb (show (0 : Int) ≤ 1 by omega), byte_spec hb (show (0 : Int) ≤ 2 by omega), cp, Option.bind_some]
    rw [w64 (n := byteAt d 0 * 65536) (by omega), w64 (n := byteAt d 1 * 256) (by omega), w64 (n := byteAt d 0 * 65536 + byteAt d 1 * 256) (by omega), w64 (by omega)]
    exact ⟨_, rfl, by omega, by omega⟩
  obtain ⟨r, hst, r0, r1⟩ := hst
  rw [start_same hb (by omega), hst]
  unfold spec_l4Decode
  rw [hst]
  simp only [Option.bind_some]
  obtain ⟨out, k1, k2, k3, k4⟩ := decode_loops hb (by omega) N (by omega) (a := 3) (r := r) (w := 16777216) (by omega) (by omega) (by omega)
  rw [k1, k2]
  simp only [Option.bind_some, spec_l4Decode_u2, all_eq (l := out) (by omega), decide_eq_true_eq, bytesI_eq]
  by_cases hv : ∀ x ∈ out, -65535 ≤ x ∧ x ≤ 65535
  · obtain ⟨v1, v2⟩ := encodeValues_ok (l := out) (by omega) hv
    obtain ⟨g1, g2⟩ := slotsL_ok hv
    obtain ⟨_, _, q3, q4⟩ := encode_same g2 (by omega)
    rw [if_pos hv, v2, v1]
    simp only [Option.bind_some, impl_DecodeValues_u2, bytes_Equal, bytesI_eq, beq_bytes' q3 hb, bne_self_eq_false, Bool.false_eq_true, if_false, decide_eq_true_eq]
    have cl : slices_Clone_int64 out = some out := by unfold slices_Clone_int64; rw [if_pos (okApp_of (by omega))]
    by_cases he : encBytes (slotsL out) = d
    · exact ⟨out, true, by simp [he], by simp [he, cl], k3, fun _ => hv⟩
    · exact ⟨out, false, by simp [he], by simp [he], k3, fun h => by simp at h⟩
  · rw [if_neg hv]
    have v1 := encodeValues_bad (l := out) (by omega) (by
      apply Classical.byContradiction
      intro hc
      exact hv fun x hx => Classical.byContradiction fun hc2 => hc ⟨x, hx, hc2⟩) k4
    rw [v1]
    exact ⟨out, false, rfl, by simp [impl_DecodeValues_u2], k3, fun h => by simp at h⟩
def mineN (n s : Int) (i : Nat) : Bool := (IntKind.i64.wrap (n + (i : Int))).tmod 2 == s
/-- How many of the bands from i on a side carries. -/
def mines (n s : Int) (i : Nat) : Nat → Nat
  | 0 => 0
  | m + 1 => (if mineN n s i = true then 1 else 0) + mines n s (i + 1) m
theorem mines_le (n s : Int) : ∀ (m i : Nat), mines n s i m ≤ m
  | 0, _ => Nat.le_refl _
  | m + 1, i => by have := mines_le n s m (i + 1); rw [mines]; split <;> omega
theorem own_spec {a b c d e : Int} {f : List SBand} {g : List Int} {h i : Bool} {j l : Int} {m0 : List Int} : ∀ (m k o : Nat), k + m = f.length → f.length ≤ 2 → o + m ≤ 100 →
    loopO (spec_l16Read_s5 a b c d e f g h i j l m0) ((o : Int), (k : Int)) = some ((o + mines a e k m : Nat) : Int)
  | 0, k, o, h1, h2, h3 => by
    rw [loopO_eq]
    simp only [spec_l16Read_s5, decide_eq_true_eq]
    rw [if_neg (by omega)]; simp [mines]
  | m + 1, k, o, h1, h2, h3 => by
    rw [loopO_eq]
    simp only [spec_l16Read_s5, spec_l16Read_u4, spec_l16Read_u3, decide_eq_true_eq]
    rw [if_pos (by omega), w64 (n := (k : Int) + 1) (by omega), w64 (n := (o : Int) + 1) (by omega)]
    have e1 : spec_l15Mine (SPart.mk a b 0 c d e [] [] []) (k : Int) = mineN a e k := rfl
    rw [e1, mines]
    cases mineN a e k with
    | true => simp only [if_true]; rw [show (o : Int) + 1 = ((o + 1 : Nat) : Int) from by omega]; exact (own_spec m (k + 1) (o + 1) (by omega) h2 (by omega)).trans (by rw [Nat.add_assoc])
    | false => simp only [Bool.false_eq_true, if_false]; exact (own_spec m (k + 1) o (by omega) h2 (by omega)).trans (by rw [Nat.zero_add])
  termination_by m => m
theorem own_impl {a : Bool} {b c : Int} {d : List Int} {e f g h i : Int} {j : Bool} {l : List Int} : ∀ (m k len : Nat) (o : Int), k + m = len → len ≤ 2 → 0 ≤ o → o + m ≤ 1000 →
    loopO (impl_ReadPart_s2 64 a b c d e f g h i j l (len : Int)) (o, (k : Int)) = some (o + (mines e g k m : Int))
  | 0, k, len, o, h1, h2, h3, h4 => by
    rw [loopO_eq]
    simp only [impl_ReadPart_s2, decide_eq_true_eq]
    rw [if_neg (by omega)]; simp [mines]
  | m + 1, k, len, o, h1, h2, h3, h4 => by
    rw [loopO_eq]
    simp only [impl_ReadPart_s2, decide_eq_true_eq]
    rw [if_pos (by omega), w64 (n := (k : Int) + 1) (by omega)]
    have e1 : (impl_ownerOf e (k : Int) == g) = mineN e g k := rfl
    rw [e1, mines, impl_codeIf_eq]
    cases mineN e g k with
    | true =>
      simp only [if_true]
      rw [w64 (by omega)]
      exact (own_impl m (k + 1) len (o + 1) (by omega) h2 (by omega) (by omega)).trans (by congr 1; omega)
    | false =>
      simp only [Bool.false_eq_true, if_false]
      rw [w64 (by omega)]
      exact (own_impl m (k + 1) len (o + 0) (by omega) h2 (by omega) (by omega)).trans (by congr 1; omega)
  termination_by m => m
theorem read_loops {n s rg mk sp sd : Int} {ls gs vals data pg : List Int} {bs : List SBand} {it kn : Bool} {pn pr : Int} (hm : 0 ≤ mk ∧ mk ≤ 3) (hb : bs.length ≤ 2) (hd : ∀ (j : Nat) (b : SBand), bs[j]? = some b → b.Dim = 2 ∨ b.Dim = 4) (hv : vals.length ≤ 64) :
    ∀ (m k at_ : Nat) (us : List (List Int)) (os : List Int), k + m = bs.length → vals.drop at_ = os → os.length = mines n sd k m → us.length = k → at_ ≤ 100 →
    (∃ L, loopO (spec_l16Read_s12 n s rg mk sp sd ls gs bs vals data it kn pn pr pg) (us, (at_ : Int), (k : Int)) = some (us ++ L) ∧ loopO (impl_readPart_s6 64 n s sd sp mk it rg ls gs bs (bs.length : Int)) (us, os, (k : Int)) = some (.inl (us ++ L)) ∧ L.length = m ∧ ∀ x ∈ L, x.length ≤ 4) ∨
    (∃ L i, loopO (spec_l16Read_s12 n s rg mk sp sd ls gs bs vals data it kn pn pr pg) (us, (at_ : Int), (k : Int)) = some (us ++ L) ∧ loopO (impl_readPart_s6 64 n s sd sp mk it rg ls gs bs (bs.length : Int)) (us, os, (k : Int)) = some (.inr ()) ∧ L.length = m ∧ (∀ x ∈ L, x.length ≤ 4) ∧ i < m ∧ mineN n sd (k + i) = true ∧ L[i]? = some [])
  | 0, k, at_, us, os, h1, h2, h3, h4, h5 => by
    rw [loopO_eq, loopO_eq (step := impl_readPart_s6 _ _ _ _ _ _ _ _ _ _ _ _)]
    simp only [spec_l16Read_s12, impl_readPart_s6, decide_eq_true_eq]
    have hlt : ¬ (k : Int) < (bs.length : Int) := by omega
    simp only [hlt, if_false]
    exact .inl ⟨[], by simp, by simp, rfl, by simp⟩
  | m + 1, k, at_, us, os, h1, h2, h3, h4, h5 => by
    obtain ⟨b, gb, _⟩ := get_lt (l := bs) (i := k) (by omega)
    have wm : IntKind.i64.wrap (8 - IntKind.i64.wrap (2 * mk)) = 8 - 2 * mk := by rw [w64 (n := 2 * mk) (by omega), w64 (by omega)]
    obtain ⟨D, hD, hD1⟩ : ∃ D : Nat, b.Dim = (D : Int) ∧ (D = 2 ∨ D = 4) := by
      rcases hd k b gb with q | q
      · exact ⟨2, q, .inl rfl⟩
      · exact ⟨4, q, .inr rfl⟩
    obtain ⟨M, hM, hM1⟩ : ∃ M : Nat, 8 - 2 * mk = (M : Int) ∧ M ≤ 8 := ⟨(8 - 2 * mk).toNat, by omega, by omega⟩
    have m1 : ∀ us, spec_l15Mine (SPart.mk n s rg mk sp sd ls gs us) (k : Int) = mineN n sd k := fun _ => rfl
    have m2 : ∀ us, impl_Part_owns (SPart.mk n s rg mk sp sd ls gs us) (k : Int) = mineN n sd k := fun _ => rfl
    rw [loopO_eq, loopO_eq (step := impl_readPart_s6 _ _ _ _ _ _ _ _ _ _ _ _)]
    simp only [spec_l16Read_s12, spec_l16Read_u11, spec_l16Read_u10, impl_readPart_s6, impl_readPart_u5, impl_pulsesFor, decide_eq_true_eq, m1, m2]
    have hlt : (k : Int) < (bs.length : Int) := by omega
    rw [wm, w64 (n := (k : Int) + 1) (by omega)]
    simp only [hlt, if_true, getI_nat, gb, Int.toNat_natCast, Option.bind_some]
    rw [mines] at h3
    cases hk : mineN n sd k with
    | false =>
      rw [hk] at h3
      simp only [Bool.false_eq_true, if_false, Option.bind_some] at h3 ⊢
      have hok : okApp 24 (us ++ [[]]).length = true := okApp_of (by simp; omega)
      simp only [hok, Option.bind_some, bne_self_eq_false, Bool.false_eq_true, if_false, if_true]
      have := read_loops (n := n) (s := s) (rg := rg) (mk := mk) (sp := sp) (sd := sd) (ls := ls) (gs := gs) (data := data) (pg := pg) (it := it) (kn := kn) (pn := pn) (pr := pr) hm hb hd hv m (k + 1) at_ (us ++ [[]]) os (by omega) h2 (by omega) (by simp; omega) h5
      rw [show ((k + 1 : Nat) : Int) = (k : Int) + 1 from by omega] at this
      rcases this with ⟨L, q1, q2, q3, q4⟩ | ⟨L, i, q1, q2, q3, q4, q5, q6, q7⟩
      · refine .inl ⟨[] :: L, by rw [q1]; simp, by rw [q2]; simp, by simp; omega, fun x hx => ?_⟩
        rcases List.mem_cons.1 hx with rfl | hx
        · simp
        · exact q4 x hx
      · refine .inr ⟨[] :: L, i + 1, by rw [q1]; simp, q2, by simp; omega, fun x hx => ?_, by omega, by rw [← q6]; congr 1; omega, by simpa using q7⟩
        rcases List.mem_cons.1 hx with rfl | hx
        · simp
        · exact q4 x hx
    | true =>
      rw [hk] at h3
      simp only [if_true] at h3 ⊢
      obtain ⟨x, os', rfl⟩ : ∃ x os', os = x :: os' := by
        cases os with
        | nil => simp at h3; omega
        | cons x os' => exact ⟨x, os', rfl⟩
      have gx : vals[at_]? = some x := by
        have : (vals.drop at_)[0]? = some x := by rw [h2]; rfl
        simpa using this
      have hat : at_ < vals.length := (List.getElem?_eq_some_iff.1 gx).1
      have hdr : vals.drop (at_ + 1) = os' := by rw [← List.drop_drop, h2]; rfl
      have hol : (x :: os').length ≤ 64 := by rw [← h2]; simp; omega
      have g0 : getI (x :: os') 0 = some x := rfl
      have s1 : subI (x :: os') 1 ((x :: os').length : Int) = some os' := by
        have := subI_eq (xs := x :: os') (l := 1) (h := (x :: os').length) (by simp) (Nat.le_refl _)
        simpa using this
      obtain ⟨r, p1, p2, p3, p4, p5⟩ := pulsesAt_same (d := D) (k := M) (x := x) (by omega) hM1
      rw [hM, hD]
      simp only [gx, g0, s1, Option.bind_some, p1, p2]
      have hok : okApp 24 (us ++ [r.List_]).length = true := okApp_of (by simp; omega)
      rw [w64 (n := (at_ : Int) + 1) (by omega)]
      simp only [hok, Option.bind_some, if_true]
      have := read_loops (n := n) (s := s) (rg := rg) (mk := mk) (sp := sp) (sd := sd) (ls := ls) (gs := gs) (data := data) (pg := pg) (it := it) (kn := kn) (pn := pn) (pr := pr) hm hb hd hv m (k + 1) (at_ + 1) (us ++ [r.List_]) os' (by omega) hdr (by simp at h3; omega) (by simp; omega) (by omega)
      rw [show ((k + 1 : Nat) : Int) = (k : Int) + 1 from by omega, show ((at_ + 1 : Nat) : Int) = (at_ : Int) + 1 from by omega] at this
      by_cases hc : r.Code = 0
      · rw [if_neg (by simp [hc])]
        simp only []
        rcases this with ⟨L, q1, q2, q3, q4⟩ | ⟨L, i, q1, q2, q3, q4, q5, q6, q7⟩
        · refine .inl ⟨r.List_ :: L, by rw [q1]; simp, by rw [q2]; simp, by simp; omega, fun x hx => ?_⟩
          rcases List.mem_cons.1 hx with rfl | hx
          · exact p5
          · exact q4 x hx
        · refine .inr ⟨r.List_ :: L, i + 1, by rw [q1]; simp, q2, by simp; omega, fun x hx => ?_, by omega, by rw [← q6]; congr 1; omega, by simpa using q7⟩
          rcases List.mem_cons.1 hx with rfl | hx
          · exact p5
          · exact q4 x hx
      · rw [if_pos (by simpa using hc)]
        simp only []
        have e0 := p4 hc
        rcases this with ⟨L, q1, q2, q3, q4⟩ | ⟨L, i, q1, q2, q3, q4, q5, q6, q7⟩
        · refine .inr ⟨r.List_ :: L, 0, by rw [q1]; simp, trivial, by simp; omega, fun x hx => ?_, by omega, hk, by simp [e0]⟩
          rcases List.mem_cons.1 hx with rfl | hx
          · exact p5
          · exact q4 x hx
        · refine .inr ⟨r.List_ :: L, 0, by rw [q1]; simp, trivial, by simp; omega, fun x hx => ?_, by omega, hk, by simp [e0]⟩
          rcases List.mem_cons.1 hx with rfl | hx
          · exact p5
          · exact q4 x hx
  termination_by m => m
theorem anchor_zero {s : SAnchor} (h1 : (s.Gains.length : Int) ≤ maxI) (h : spec_AnchorFault s = some 0) (hk : s.Known = true) : (0 ≤ s.Number ∧ s.Number ≤ 9999) ∧ (0 ≤ s.Rung ∧ s.Rung ≤ 47) ∧ (∀ x ∈ s.Gains, 0 ≤ x ∧ x ≤ 65535) ∧ 1 ≤ s.Gains.length ∧ s.Gains.length ≤ 2 := by
  unfold spec_AnchorFault spec_AnchorFault_u1 spec_AnchorFault_u2 spec_AnchorFault_u3 spec_l14Number spec_l9Rung at h
  simp only [hk, if_true, spec_l1In_eq] at h
  by_cases q1 : 0 ≤ s.Number ∧ s.Number ≤ 9999
  · by_cases q2 : 0 ≤ s.Rung ∧ s.Rung ≤ 47
    · rw [decide_eq_true q1, decide_eq_true q2] at h
      simp only [Bool.not_true, if_true, Bool.false_eq_true, if_false] at h
      by_cases q3 : (s.Gains.length : Int) < 1
      · simp [q3] at h
      · by_cases q4 : (s.Gains.length : Int) > 2
        · simp [q3, q4] at h
        · simp only [q3, q4, decide_false, Bool.false_eq_true, if_false] at h
          rw [l1All_all h1] at h
          simp only [Option.bind_some] at h
          cases hg : s.Gains.all fun x => decide (0 ≤ x ∧ x ≤ 65535) with
          | false => rw [hg] at h; simp at h
          | true => exact ⟨q1, q2, fun x hx => of_decide_eq_true (List.all_eq_true.1 hg x hx), by omega, by omega⟩
    · rw [decide_eq_true q1, decide_eq_false q2] at h; simp at h
  · rw [decide_eq_false q1] at h; simp at h
theorem ahead_same {s : SAnchor} {n z : Int} (h1 : (s.Gains.length : Int) ≤ maxI) (h : spec_AnchorFault s = some 0) (hn : 0 ≤ n ∧ n ≤ 9999) : impl_Anchor_precedes s n z = spec_l16Ahead s n z ∧ (spec_l16Ahead s n z = true → s.Known = true ∧ s.Gains.length = (spec_l13Bands z).length) := by
  unfold impl_Anchor_precedes impl_Anchor_precedes_u1 spec_l16Ahead spec_l16Ahead_u1
  cases hk : s.Known with
  | false => exact ⟨rfl, fun h => by simp at h⟩
  | true =>
    obtain ⟨q1, _⟩ := anchor_zero h1 h hk
    rw [w64 (n := s.Number + 1) (by omega), w64 (n := n - 1) (by omega)]
    simp only [if_true]
    have e : (s.Number + 1 == n) = (s.Number == n - 1) := by
      rw [Bool.eq_iff_iff]; simp; omega
    rw [e]
    refine ⟨rfl, fun h => ?_⟩
    cases hq : s.Number == n - 1 with
    | false => rw [hq] at h; simp at h
    | true => rw [hq] at h; simp at h; exact ⟨trivial, by omega⟩
theorem gains_add {n s rg mk sp sd : Int} {gs data vals pg : List Int} {bs : List SBand} {it kn : Bool} {pn pr : Int} (hr : -65535 ≤ rg ∧ rg ≤ 65535) (hg : ∀ x ∈ gs, -65535 ≤ x ∧ x ≤ 65535) (hb : bs.length = 1 ∨ bs.length = 2) (hl : gs.length = bs.length)
    (hp : it = false → (0 ≤ pr ∧ pr ≤ 47) ∧ pg.length = bs.length ∧ ∀ x ∈ pg, 0 ≤ x ∧ x ≤ 65535) :
    ∃ r2 g2, spec_l16Read_u7 n s rg mk sp sd gs bs vals data it kn pn pr pg (!it) = some (r2, g2) ∧ (∀ vv, impl_readPart_u2 64 n s sd sp mk it kn pn pr pg rg gs bs vv (!it) = some (r2, g2)) ∧ g2.length = bs.length := by
  unfold spec_l16Read_u7 impl_readPart_u2
  cases it with
  | true =>
    simp only [Bool.not_true, Bool.false_eq_true, if_false]
    exact ⟨rg, gs, rfl, fun _ => rfl, hl⟩
  | false =>
    obtain ⟨p1, p2, p3⟩ := hp rfl
    simp only [Bool.not_false, if_true]
    refine ⟨IntKind.i64.wrap (rg + pr), List.zipWith (fun a b => IntKind.i64.wrap (a + b)) gs pg, ?_, ?_, by simp; omega⟩
    · rcases hb with h1 | h1
      · obtain ⟨b, rfl⟩ := List.length_eq_one_iff.1 h1
        obtain ⟨g, rfl⟩ := List.length_eq_one_iff.1 (hl.trans h1)
        obtain ⟨h, rfl⟩ := List.length_eq_one_iff.1 (p2.trans h1)
        have s1 : spec_l16Read_s6 n s (IntKind.i64.wrap (rg + pr)) mk sp sd [b] vals data false kn pn pr [h] ([g], 0) = some (.inl ([IntKind.i64.wrap (g + h)], 1)) := rfl
        have s2 : ∀ l, spec_l16Read_s6 n s (IntKind.i64.wrap (rg + pr)) mk sp sd [b] vals data false kn pn pr [h] (l, 1) = some (.inr l) := fun _ => rfl
        rw [loopO_eq, s1]; simp only []; rw [loopO_eq, s2]; rfl
      · obtain ⟨b, b', rfl⟩ : ∃ a b, bs = [a, b] := by
          match bs, h1 with
          | [a, b], _ => exact ⟨a, b, rfl⟩
        obtain ⟨g, g', rfl⟩ : ∃ a b, gs = [a, b] := by
          match gs, hl.trans h1 with
          | [a, b], _ => exact ⟨a, b, rfl⟩
        obtain ⟨h, h', rfl⟩ : ∃ a b, pg = [a, b] := by
          match pg, p2.trans h1 with
          | [a, b], _ => exact ⟨a, b, rfl⟩
        have s1 : spec_l16Read_s6 n s (IntKind.i64.wrap (rg + pr)) mk sp sd [b, b'] vals data false kn pn pr [h, h'] ([g, g'], 0) = some (.inl ([IntKind.i64.wrap (g + h), g'], 1)) := rfl
        have s2 : ∀ y, spec_l16Read_s6 n s (IntKind.i64.wrap (rg + pr)) mk sp sd [b, b'] vals data false kn pn pr [h, h'] ([y, g'], 1) = some (.inl ([y, IntKind.i64.wrap (g' + h')], 2)) := fun _ => rfl
        have s3 : ∀ l, spec_l16Read_s6 n s (IntKind.i64.wrap (rg + pr)) mk sp sd [b, b'] vals data false kn pn pr [h, h'] (l, 2) = some (.inr l) := fun _ => rfl
        rw [loopO_eq, s1]; simp only []; rw [loopO_eq, s2]; simp only []; rw [loopO_eq, s3]; rfl
    · intro vals
      rcases hb with h1 | h1
      · obtain ⟨b, rfl⟩ := List.length_eq_one_iff.1 h1
        obtain ⟨g, rfl⟩ := List.length_eq_one_iff.1 (hl.trans h1)
        obtain ⟨h, rfl⟩ := List.length_eq_one_iff.1 (p2.trans h1)
        have s1 : impl_readPart_s1 64 n s sd sp mk false (IntKind.i64.wrap (rg + pr)) [b] vals [h] ([h].length : Int) ([g], 0) = some (.inl ([IntKind.i64.wrap (g + h)], 1)) := rfl
        have s2 : ∀ l, impl_readPart_s1 64 n s sd sp mk false (IntKind.i64.wrap (rg + pr)) [b] vals [h] ([h].length : Int) (l, 1) = some (.inr l) := fun _ => rfl
        rw [loopO_eq, s1]; simp only []; rw [loopO_eq, s2]; rfl
      · obtain ⟨b, b', rfl⟩ : ∃ a b, bs = [a, b] := by
          match bs, h1 with
          | [a, b], _ => exact ⟨a, b, rfl⟩
        obtain ⟨g, g', rfl⟩ : ∃ a b, gs = [a, b] := by
          match gs, hl.trans h1 with
          | [a, b], _ => exact ⟨a, b, rfl⟩
        obtain ⟨h, h', rfl⟩ : ∃ a b, pg = [a, b] := by
          match pg, p2.trans h1 with
          | [a, b], _ => exact ⟨a, b, rfl⟩
        have s1 : impl_readPart_s1 64 n s sd sp mk false (IntKind.i64.wrap (rg + pr)) [b, b'] vals [h, h'] ([h, h'].length : Int) ([g, g'], 0) = some (.inl ([IntKind.i64.wrap (g + h), g'], 1)) := rfl
        have s2 : ∀ y, impl_readPart_s1 64 n s sd sp mk false (IntKind.i64.wrap (rg + pr)) [b, b'] vals [h, h'] ([h, h'].length : Int) ([y, g'], 1) = some (.inl ([y, IntKind.i64.wrap (g' + h')], 2)) := fun _ => rfl
        have s3 : ∀ l, impl_readPart_s1 64 n s sd sp mk false (IntKind.i64.wrap (rg + pr)) [b, b'] vals [h, h'] ([h, h'].length : Int) (l, 2) = some (.inr l) := fun _ => rfl
        rw [loopO_eq, s1]; simp only []; rw [loopO_eq, s2]; simp only []; rw [loopO_eq, s3]; rfl
def noPart : SPart := ⟨0, 0, 0, 0, 0, 0, [], [], []⟩
theorem cutI_eq {n l h : Nat} (h1 : l ≤ h) (h2 : h ≤ n) : cutI n (l : Int) (h : Int) = some (l, h) := by
  unfold cutI
  rw [if_pos ⟨by omega, by omega⟩, if_pos ⟨by omega, by omega⟩]
  simp
theorem part_read {d : List Int} {h : SHead} {prev : SAnchor} (hb : ∀ x ∈ d, 0 ≤ x ∧ x ≤ 255) (hd : 5 ≤ d.length ∧ d.length ≤ 160) (hs : spec_SizeFault h.Size = 0) (hm : 0 ≤ h.Mask ∧ h.Mask ≤ 3) (hn : 0 ≤ h.Number ∧ h.Number ≤ 9999) (hpl : (prev.Gains.length : Int) ≤ maxI) (ha : spec_AnchorFault prev = some 0) (ha2 : impl_AnchorFault prev = some 0)
    (hi : h.Intra = false → spec_l16Ahead prev h.Number h.Size = true) :
    ∃ q ok, spec_l16Read d h prev = some (q, ok) ∧ ((loopO (impl_ReadPart_s2 64 prev.Known prev.Number prev.Rung prev.Gains h.Number h.Size h.Side h.Spread h.Mask h.Intra d ((impl_bandsOf h.Size).length : Int)) (IntKind.i64.wrap (IntKind.i64.wrap (1 + ((impl_bandsOf h.Size).length : Int)) + IntKind.i64.wrap (h.Size.tdiv (2 : Int))), 0)).bind fun g =>
      (subI d 3 (IntKind.i64.wrap ((d.length : Int) - 2))).bind fun e =>
      (impl_DecodeValues e g).bind fun i =>
      if (i.Code != 0) = true then some (SPartResult.mk 5 (SPart.mk 0 0 0 0 0 0 [] [] []))
      else (impl_ReadPart_u4 64 prev.Known prev.Number prev.Rung prev.Gains h.Number h.Size h.Side h.Spread h.Mask h.Intra i.Code i.List_ d).bind fun j =>
        some (SPartResult.mk j.1 (SPart.mk j.2.1 j.2.2.1 j.2.2.2.1 j.2.2.2.2.1 j.2.2.2.2.2.1 j.2.2.2.2.2.2.1 j.2.2.2.2.2.2.2.1 j.2.2.2.2.2.2.2.2.1 j.2.2.2.2.2.2.2.2.2))) = some (if ok = true then ⟨0, q⟩ else ⟨5, noPart⟩) ∧ (ok = true → PartOk q) := by
  obtain ⟨num, sz, sd, sp, mk, it⟩ := h
  obtain ⟨kn, pn, pr, pg⟩ := prev
  simp only at hs hm hn hpl hi ⊢
  obtain ⟨H, hH, hH8⟩ : ∃ H : Nat, sz.tdiv 2 = (H : Int) ∧ H ≤ 8 := by
    rcases tdiv_half hs with ⟨_, q⟩ | ⟨_, q⟩ | ⟨_, q⟩
    · exact ⟨2, q, by omega⟩
    · exact ⟨4, q, by omega⟩
    · exact ⟨8, q, by omega⟩
  have hnb := bands_len (n := sz)
  have hdim : ∀ (j : Nat) (b : SBand), (spec_l13Bands sz)[j]? = some b → b.Dim = 2 ∨ b.Dim = 4 := fun j b q => band_dim q
  have hnb2 : (spec_l13Bands sz).length ≤ 2 := by omega
  have ho := mines_le num sd (spec_l13Bands sz).length 0
  have hprev : it = false → (0 ≤ pr ∧ pr ≤ 47) ∧ pg.length = (spec_l13Bands sz).length ∧ ∀ x ∈ pg, 0 ≤ x ∧ x ≤ 65535 := fun q => by
    obtain ⟨a1, a2⟩ := ahead_same (n := num) (z := sz) hpl ha hn
    obtain ⟨k1, k2⟩ := a2 (hi q)
    obtain ⟨_, f2, f3, _⟩ := anchor_zero hpl ha k1
    exact ⟨f2, k2, f3⟩
  have hpre : it = false → impl_Anchor_precedes ⟨kn, pn, pr, pg⟩ num sz = true := fun q => by
    rw [(ahead_same (n := num) (z := sz) hpl ha hn).1]; exact hi q
  rw [bands_same]
  generalize hB : spec_l13Bands sz = B at hnb hnb2 ho hprev hdim
  have wl : IntKind.i64.wrap ((d.length : Int) - 2) = ((d.length - 2 : Nat) : Int) := by rw [w64 (by omega)]; omega
  have s3 : subI d 3 ((d.length - 2 : Nat) : Int) = some ((d.drop 3).take (d.length - 2 - 3)) := subI_eq (l := 3) (by omega) (by omega)
  have hbd : ∀ x ∈ (d.drop 3).take (d.length - 2 - 3), 0 ≤ x ∧ x ≤ 255 := fun x hx => hb x (List.mem_of_mem_drop (List.mem_of_mem_take hx))
  obtain ⟨out, ok, k1, k2, k3, k4⟩ := l4Decode_same (d := (d.drop 3).take (d.length - 2 - 3)) (N := 1 + B.length + H + mines num sd 0 B.length) hbd (by simp; omega) (by omega)
  have w1 : IntKind.i64.wrap (1 + (B.length : Int)) = ((1 + B.length : Nat) : Int) := by rw [w64 (by omega)]; omega
  have w2 : IntKind.i64.wrap (sz.tdiv (2 : Int)) = (H : Int) := by rw [hH, w64 (by omega)]
  have w3 : IntKind.i64.wrap (((1 + B.length : Nat) : Int) + (H : Int)) = ((1 + B.length + H : Nat) : Int) := by rw [w64 (by omega)]; omega
  have w4 : IntKind.i64.wrap (((1 + B.length + H : Nat) : Int) + (mines num sd 0 B.length : Int)) = ((1 + B.length + H + mines num sd 0 B.length : Nat) : Int) := by rw [w64 (by omega)]; omega
  have o1 := own_spec (a := num) (b := sz) (c := mk) (d := sp) (e := sd) (f := B) (g := d) (h := it) (i := kn) (j := pn) (l := pr) (m0 := pg) B.length 0 0 (by omega) hnb2 (by omega)
  have o2 := own_impl (a := kn) (b := pn) (c := pr) (d := pg) (e := num) (f := sz) (g := sd) (h := sp) (i := mk) (j := it) (l := d) B.length 0 B.length ((1 + B.length + H : Nat) : Int) (by omega) hnb2 (by omega) (by omega)
  have o2' : ((1 + B.length + H : Nat) : Int) + (mines num sd 0 B.length : Int) = ((1 + B.length + H + mines num sd 0 B.length : Nat) : Int) := by omega
  rw [o2'] at o2
  rw [Nat.zero_add] at o1
  unfold spec_l16Read
  simp only [hB, wl, s3, w1, w2, w3]
  have z0 : (((0 : Nat) : Int)) = 0 := rfl
  rw [z0] at o1 o2
  rw [o1, o2]
  simp only [Option.bind_some, w4, k1, k2]
  cases ok with
  | false =>
    simp only [Bool.false_eq_true, if_false]
    exact ⟨_, _, rfl, rfl, fun h => by simp at h⟩
  | true =>
    have k4 := k4 rfl
    simp only [if_true, bne_self_eq_false, Bool.false_eq_true, if_false]
    obtain ⟨r0, rest, rfl⟩ : ∃ r0 rest, out = r0 :: rest := by
      cases out with
      | nil => simp at k3; omega
      | cons r0 rest => exact ⟨r0, rest, rfl⟩
    have hr0 := k4 r0 (by simp)
    have g0 : getI (r0 :: rest) 0 = some r0 := rfl
    have g1 : (r0 :: rest)[(0 : Int).toNat]? = some r0 := rfl
    have c1 : cutI (r0 :: rest).length 1 ((1 + B.length : Nat) : Int) = some (1, 1 + B.length) := cutI_eq (l := 1) (by omega) (by omega)
    have c2 : cutI (r0 :: rest).length ((1 + B.length : Nat) : Int) ((1 + B.length + H : Nat) : Int) = some (1 + B.length, 1 + B.length + H) := cutI_eq (by omega) (by omega)
    have t1 : subI (r0 :: rest) 1 ((1 + B.length : Nat) : Int) = some (((r0 :: rest).drop 1).take (1 + B.length - 1)) := subI_eq (l := 1) (by omega) (by omega)
    have t2 : subI (r0 :: rest) ((1 + B.length : Nat) : Int) ((r0 :: rest).length : Int) = some (((r0 :: rest).drop (1 + B.length)).take ((r0 :: rest).length - (1 + B.length))) := subI_eq (by omega) (Nat.le_refl _)
    have t2' : ((r0 :: rest).drop (1 + B.length)).take ((r0 :: rest).length - (1 + B.length)) = (r0 :: rest).drop (1 + B.length) := List.take_of_length_le (by simp)
    rw [t2'] at t2
    have t3 : subI ((r0 :: rest).drop (1 + B.length)) 0 (H : Int) = some (((r0 :: rest).drop (1 + B.length)).take H) := by
      have := subI_eq (xs := (r0 :: rest).drop (1 + B.length)) (l := 0) (h := H) (by omega) (by simp at k3 ⊢; omega)
      simpa using this
    have t4 : subI ((r0 :: rest).drop (1 + B.length)) (H : Int) (((r0 :: rest).drop (1 + B.length)).length : Int) = some ((r0 :: rest).drop (1 + B.length + H)) := by
      have := subI_eq (xs := (r0 :: rest).drop (1 + B.length)) (l := H) (h := ((r0 :: rest).drop (1 + B.length)).length) (by simp at k3 ⊢; omega) (Nat.le_refl _)
      rw [this, List.take_of_length_le (Nat.le_of_eq List.length_drop), List.drop_drop]
    have i1 : ∀ l : List Int, l.length ≤ 64 → spec_l1Ints l = some l := fun l hl => by unfold spec_l1Ints; rw [if_pos (okApp_of (by omega))]
    have i2 : ∀ l : List Int, l.length ≤ 64 → slices_Clone_int64 l = some l := fun l hl => by unfold slices_Clone_int64; rw [if_pos (okApp_of (by omega))]
    generalize hgs : ((r0 :: rest).drop 1).take (1 + B.length - 1) = gs at t1
    generalize hls : ((r0 :: rest).drop (1 + B.length)).take H = ls at t3
    have hgl : gs.length = B.length := by rw [← hgs]; simp at k3 ⊢; omega
    have hll : ls.length = H := by rw [← hls]; simp at k3 ⊢; omega
    have hgm : ∀ x ∈ gs, -65535 ≤ x ∧ x ≤ 65535 := fun x hx => k4 x (by rw [← hgs] at hx; exact List.mem_of_mem_drop (List.mem_of_mem_take hx))
    obtain ⟨r2, g2, a1, a2, a3⟩ := gains_add (n := num) (s := sz) (rg := r0) (mk := mk) (sp := sp) (sd := sd) (gs := gs) (data := d) (vals := r0 :: rest) (pg := pg) (bs := B) (it := it) (kn := kn) (pn := pn) (pr := pr) hr0 hgm hnb hgl hprev
    have a2' := a2
    have e1' : (1 + B.length) - 1 = 1 + B.length - 1 := rfl
    have e2' : 1 + B.length + H - (1 + B.length) = H := by omega
    simp only [g0, g1, c1, c2, Option.bind_some, e2', hgs, hls, i1 gs (by omega), i1 ls (by omega), a1]
    have rl := read_loops (n := num) (s := sz) (rg := r2) (mk := mk) (sp := sp) (sd := sd) (ls := ls) (gs := g2) (vals := r0 :: rest) (data := d) (pg := pg) (bs := B) (it := it) (kn := kn) (pn := pn) (pr := pr) hm hnb2 hdim (by omega) B.length 0 (1 + B.length + H) [] ((r0 :: rest).drop (1 + B.length + H)) (by omega) rfl (by simp at k3 ⊢; omega) rfl (by omega)
    simp only [impl_ReadPart_u4, impl_readPart, bands_same, hB, w1, g0, t1, t2, Option.bind_some, i2 gs (by omega), a2', impl_readPart_u3, w2, t3, i2 ls (by omega), t4]
    rw [z0] at rl
    have eP : SPart.mk num sz r2 mk sp sd ls g2 = SPart.mk num sz r2 mk sp sd ls g2 := rfl
    rcases rl with ⟨L, q1, q2, q3, q4⟩ | ⟨L, i, q1, q2, q3, q4, q5, q6, q7⟩
    · rw [q1, q2]
      simp only [List.nil_append, Option.bind_some, Sum.elim_inl, if_true]
      obtain ⟨c, f1, f2, f3⟩ := part_same (f := ⟨num, sz, r2, mk, sp, sd, ls, g2, L⟩) ⟨by simp only []; omega, by simp only []; omega, by simp only []; omega, fun x hx => by have := q4 x hx; omega⟩
      unfold spec_l16Read_u13
      rw [f1]
      simp only [Option.bind_some]
      by_cases hc : c = 0
      · subst hc
        have po := f3 rfl
        obtain ⟨v, v1, v2, v3, v4⟩ := values_same (intra := it) (prev := ⟨kn, pn, pr, pg⟩) po ⟨fun q => by have := (hprev q).2.1; have := po.ngain; simp only [hB] at this; simp only []; omega, fun q => (hprev q).1, fun q => (hprev q).2.2⟩
        obtain ⟨n, n1, n2, n3, n4⟩ := pack_spec po v1 v3 v4
        have p1 := pack_impl (n := n) po f2 ha2 (fun q => by simp only []; exact hpre q) v2 v3 v4 n2 ⟨n3, n4⟩
        obtain ⟨y1, y2, y3⟩ := body_ok (p := ⟨num, sz, r2, mk, sp, sd, ls, g2, L⟩) (intra := it) po.number v3 v4
        have hbb : ∀ x ∈ bodyP ⟨num, sz, r2, mk, sp, sd, ls, g2, L⟩ it v ++ [n / 256, n % 256], 0 ≤ x ∧ x ≤ 255 := fun x hx => by
          rcases List.mem_append.1 hx with hx | hx
          · exact y1 x hx
          · simp at hx; omega
        rw [n1, p1]
        simp only [beq_self_eq_true, if_true, Option.bind_some, bytesI_eq, beq_bytes' hbb hb]
        by_cases h158 : (bodyP ⟨num, sz, r2, mk, sp, sd, ls, g2, L⟩ it v).length > 158
        · rw [if_pos h158]
          have hne : ¬ bodyP ⟨num, sz, r2, mk, sp, sd, ls, g2, L⟩ it v ++ [n / 256, n % 256] = d := fun e => by
            have := congrArg List.length e; simp at this; omega
          simp only [hne, decide_false, impl_ReadPart_u3, Option.bind_some]
          exact ⟨_, _, rfl, rfl, fun h => by simp at h⟩
        · rw [if_neg h158]
          by_cases hq : bodyP ⟨num, sz, r2, mk, sp, sd, ls, g2, L⟩ it v ++ [n / 256, n % 256] = d
          · simp only [hq, decide_true, impl_ReadPart_u3, bytes_Equal, bytesI_eq, Option.bind_some]
            exact ⟨_, _, rfl, by simp, fun _ => po⟩
          · simp only [hq, decide_false, impl_ReadPart_u3, bytes_Equal, bytesI_eq, Option.bind_some, beq_bytes' hbb hb]
            exact ⟨_, _, rfl, by simp [noPart], fun h => by simp at h⟩
      · have hc' : (c == 0) = false := by simp [hc]
        have hP : ∃ r, impl_PackPart 64 ⟨num, sz, r2, mk, sp, sd, ls, g2, L⟩ it ⟨kn, pn, pr, pg⟩ = some r ∧ r.Code = c := by
          unfold impl_PackPart
          have hf2 : ∀ a b : Int, impl_first [a, b] = some (firstL [a, b]) := fun a b => impl_first_eq (by simp [maxI])
          rw [f2, ha2]
          have : firstL [c, 0] = c := by simp [firstL, hc]
          simp only [Option.bind_some, hf2, this]
          rw [if_pos (by simpa using hc)]
          exact ⟨_, rfl, rfl⟩
        obtain ⟨r, r1, r3⟩ := hP
        rw [r1]
        simp only [hc', Bool.false_eq_true, if_false, Option.bind_some, impl_ReadPart_u3]
        rw [if_pos (by simpa [r3] using hc)]
        exact ⟨_, _, rfl, rfl, fun h => by simp at h⟩
    · rw [q1, q2]
      simp only [List.nil_append, Option.bind_some, Sum.elim_inr, Bool.false_eq_true, if_false]
      obtain ⟨c, f1, f2, f3⟩ := part_same (f := ⟨num, sz, r2, mk, sp, sd, ls, g2, L⟩) ⟨by simp only []; omega, by simp only []; omega, by simp only []; omega, fun x hx => by have := q4 x hx; omega⟩
      have hc : ¬ c = 0 := fun e => by
        have po := f3 e
        obtain ⟨b, gb, _⟩ := get_lt (l := B) (i := i) q5
        have := po.pul i b [] (by simp only [hB]; exact gb) q7
        have hmi : mine ⟨num, sz, r2, mk, sp, sd, ls, g2, L⟩ i = true := by rw [Nat.zero_add] at q6; exact q6
        rw [hmi] at this
        simp only [if_true, List.length_nil] at this
        have := hdim i b gb
        omega
      unfold spec_l16Read_u13
      rw [f1]
      have hc' : (c == 0) = false := by simp [hc]
      simp only [Option.bind_some, hc', Bool.false_eq_true, if_false]
      exact ⟨_, _, rfl, rfl, fun h => by simp at h⟩
theorem openR_zero {d : List Int} (h : (openR d).Code = 0) : 2 ≤ d.length ∧ d.length ≤ 160 ∧ (openR d).Bytes.length = d.length - 2 := by
  unfold openR at h ⊢
  by_cases q : 2 ≤ d.length ∧ d.length ≤ 160
  · rw [if_pos q] at h ⊢
    cases hc : spec_l2Crc (d.take (d.length - 2)) with
    | none => rw [hc] at h; simp at h
    | some n =>
      rw [hc] at h
      simp only at h ⊢
      by_cases e : d.drop (d.length - 2) = [n / 256, n % 256]
      · rw [if_pos e]; simp only [List.length_take]; omega
      · rw [if_neg e] at h; simp at h
  · rw [if_neg q] at h; simp at h
theorem head_more {d : List Int} (hd : ∀ x ∈ d, 0 ≤ x ∧ x ≤ 255) {r : SHeadResult} (h : spec_ReadHead d = some r) (h0 : r.Code = 0) : spec_SizeFault r.Head.Size = 0 ∧ (0 ≤ r.Head.Mask ∧ r.Head.Mask ≤ 3) ∧ 5 ≤ d.length ∧ d.length ≤ 160 := by
  unfold spec_ReadHead at h
  rw [(open_same hd).1] at h
  obtain ⟨b1, b2⟩ := openR_ok hd
  simp only [Option.bind_some] at h
  by_cases hc : ((openR d).Code != 0) = true
  · rw [if_pos hc] at h
    have := (Option.some.inj h).symm
    subst this
    exact absurd (show (openR d).Code = 0 from h0) (by simpa using hc)
  · rw [if_neg hc] at h
    obtain ⟨l1, l2, l3⟩ := openR_zero (d := d) (by simpa using hc)
    by_cases h3 : ((openR d).Bytes.length : Int) < 3
    · rw [if_pos (decide_eq_true h3)] at h
      have := (Option.some.inj h).symm
      subst this
      simp at h0
    · rw [if_neg (by simpa using h3)] at h
      generalize (openR d).Bytes = l at *
      obtain ⟨x0, e0, m0⟩ := get_lt (l := l) (i := 0) (by omega)
      obtain ⟨x1, e1, m1⟩ := get_lt (l := l) (i := 1) (by omega)
      obtain ⟨x2, e2, m2⟩ := get_lt (l := l) (i := 2) (by omega)
      have g0 : getI l 0 = some x0 := by rw [← e0]; exact getI_nat (i := 0)
      have g1 : getI l 1 = some x1 := by rw [← e1]; exact getI_nat (i := 1)
      have g2 : getI l 2 = some x2 := by rw [← e2]; exact getI_nat (i := 2)
      have t0 : l[(0 : Int).toNat]? = some x0 := e0
      have t1 : l[(1 : Int).toNat]? = some x1 := e1
      have t2 : l[(2 : Int).toNat]? = some x2 := e2
      have r2 := b1 x2 m2
      simp only [g0, g1, g2, t0, t1, t2, Option.bind_some] at h
      have hmk : 0 ≤ (IntKind.i64.wrap ((IntKind.i64.wrap x2).tdiv 16)).tmod 4 ∧ (IntKind.i64.wrap ((IntKind.i64.wrap x2).tdiv 16)).tmod 4 ≤ 3 := by
        have : 0 ≤ x2.tdiv 16 ∧ x2.tdiv 16 ≤ 255 := by rw [Int.tdiv_eq_ediv_of_nonneg r2.1]; omega
        rw [w64 (n := x2) (by omega), w64 (n := x2.tdiv 16) (by omega), Int.tmod_eq_emod_of_nonneg this.1]; omega
      split at h
      · have := (Option.some.inj h).symm
        subst this
        simp at h0
      · rename_i hu
        have := (Option.some.inj h).symm
        subst this
        refine ⟨?_, hmk, by omega, l2⟩
        simp only
        generalize IntKind.i64.wrap ((IntKind.i64.wrap x2).tdiv 64) = q at hu ⊢
        unfold spec_ReadHead_u3 at hu
        unfold spec_ReadHead_u2 spec_ReadHead_u1 at hu ⊢
        by_cases q0 : q = 0
        · simp [q0]; rfl
        · by_cases q1 : q = 1
          · simp [q1]; rfl
          · by_cases q2 : q = 2
            · simp [q2]; rfl
            · exfalso
              apply hu
              simp only [q0, q1, q2, beq_iff_eq, Bool.false_eq_true, if_false, beq_eq_false_iff_ne.2 q0, beq_self_eq_true]
              split <;> first | rfl | (split <;> rfl)
theorem readPart_same {d : List Int} {prev : SAnchor} (hb : ∀ x ∈ d, 0 ≤ x ∧ x ≤ 255) (hpl : (prev.Gains.length : Int) ≤ maxI) : ∃ r, spec_ReadPart d prev = some r ∧ impl_ReadPart 64 d prev = some r ∧ (r.Code = 0 → PartOk r.Part) ∧ (r.Code ≠ 0 → r.Part = noPart) := by
  obtain ⟨h, h1, h2, h3⟩ := head_same hb
  obtain ⟨c, a1, a2⟩ := anchor_same hpl
  have hf2 : ∀ a b : Int, impl_first [a, b] = some (firstL [a, b]) := fun a b => impl_first_eq (by simp [maxI])
  unfold spec_ReadPart impl_ReadPart
  rw [h1, h2]
  simp only [Option.bind_some, a1, a2, hf2]
  by_cases hc : h.Code = 0
  · obtain ⟨k1, k2⟩ := h3 hc
    obtain ⟨m1, m2, m3, m4⟩ := head_more hb h1 hc
    by_cases hcc : c = 0
    · subst hcc
      have e00 : firstL [h.Code, 0] = 0 := by simp [firstL, hc]
      have e0 : (h.Code != 0) = false := by simp [hc]
      simp only [e00, e0, bne_self_eq_false, Bool.false_eq_true, if_false]
      obtain ⟨p1, p2⟩ := ahead_same (n := h.Head.Number) (z := h.Head.Size) hpl a1 k2
      have eS : SAnchor.mk prev.Known prev.Number prev.Rung prev.Gains = prev := rfl
      have eu : impl_ReadPart_u1 64 prev.Known prev.Number prev.Rung prev.Gains h.Head.Number h.Head.Size h.Head.Side h.Head.Spread h.Head.Mask h.Head.Intra d = spec_ReadPart_u1 prev.Known prev.Number prev.Rung prev.Gains h.Code h.Head.Number h.Head.Size h.Head.Side h.Head.Spread h.Head.Mask h.Head.Intra d := by
        unfold impl_ReadPart_u1 spec_ReadPart_u1
        rw [eS, p1]
      rw [eu]
      have e1 : (spec_ReadPart_u1 prev.Known prev.Number prev.Rung prev.Gains h.Code h.Head.Number h.Head.Size h.Head.Side h.Head.Spread h.Head.Mask h.Head.Intra d) = (h.Head.Intra, !h.Head.Intra && !(spec_l16Ahead prev h.Head.Number h.Head.Size)) := by
        unfold spec_ReadPart_u1
        cases h.Head.Intra <;> rfl
      rw [e1]
      simp only
      cases hx : (!h.Head.Intra && !(spec_l16Ahead prev h.Head.Number h.Head.Size)) with
      | true => simp only [if_true]; exact ⟨_, rfl, rfl, fun h => by simp at h, fun _ => rfl⟩
      | false =>
        simp only [Bool.false_eq_true, if_false]
        obtain ⟨q, ok, r1, r2, r3⟩ := part_read (h := h.Head) (prev := prev) hb ⟨m3, m4⟩ m1 m2 k2 hpl a1 a2 (fun hi => by rw [hi] at hx; simpa using hx)
        rw [show (SHead.mk h.Head.Number h.Head.Size h.Head.Side h.Head.Spread h.Head.Mask h.Head.Intra) = h.Head from rfl, r1, r2]
        cases ok with
        | true => exact ⟨_, rfl, rfl, fun _ => r3 rfl, fun h => absurd rfl h⟩
        | false => exact ⟨_, rfl, rfl, fun h => by simp at h, fun _ => rfl⟩
    · have e0 : (h.Code != 0) = false := by simp [hc]
      have e1 : firstL [h.Code, c] = c := by simp [firstL, hc, hcc]
      have e2 : (c != 0) = true := by simp [hcc]
      simp only [e0, e1, e2, Bool.false_eq_true, if_false, if_true]
      exact ⟨_, rfl, rfl, fun h => absurd h hcc, fun _ => rfl⟩
  · have e0 : (h.Code != 0) = true := by simp [hc]
    have e1 : firstL [h.Code, c] = h.Code := by simp [firstL, hc]
    simp only [e0, e1, if_true]
    exact ⟨_, rfl, rfl, fun h => absurd h hc, fun _ => rfl⟩
theorem toByteS_eq {l : List Int} (hl : (l.length : Int) ≤ 1048576) : laws_toByteS l = some l := by
  unfold laws_toByteS
  rw [if_pos (okMake_of (by omega) (by simp; omega) (by omega)), Int.toNat_natCast, copy_loop (fun a i x y hx hy ha => ?_) (fun a => ?_) (by unfold maxI; omega)]
  · rfl
  · have hi : i < l.length := (List.getElem?_eq_some_iff.1 hx).1
    simp only [laws_toByteS_s1, decide_eq_true_eq]
    rw [if_pos (by omega), getI_nat, hx, getI_nat, hy, Int.toNat_natCast, hy]; rfl
  · simp only [laws_toByteS_s1, decide_eq_true_eq]; rw [if_neg (by omega)]
theorem eqI_self {l : List Int} (hl : (l.length : Int) ≤ maxI) : laws_eqInt64S l l = some true := by
  unfold laws_eqInt64S
  have := eq_any (l := l) (m := l) (step := laws_eqInt64S_s1 l l) (fun i x y hx hy => by
    have hi : i < l.length := (List.getElem?_eq_some_iff.1 hx).1
    simp only [laws_eqInt64S_s1, decide_eq_true_eq]
    obtain rfl : x = y := by rw [hx] at hy; exact Option.some.inj hy
    rw [if_pos (by omega), getI_nat, hx]
    simp) (by simp only [laws_eqInt64S_s1, decide_eq_true_eq]; rw [if_neg (by omega)]) hl
  simpa using this
theorem eqB_self {l : List Int} (hl : (l.length : Int) ≤ maxI) : laws_eqByteS l l = some true := by
  unfold laws_eqByteS
  have := eq_any (l := l) (m := l) (step := laws_eqByteS_s1 l l) (fun i x y hx hy => by
    have hi : i < l.length := (List.getElem?_eq_some_iff.1 hx).1
    simp only [laws_eqByteS_s1, decide_eq_true_eq]
    obtain rfl : x = y := by rw [hx] at hy; exact Option.some.inj hy
    rw [if_pos (by omega), getI_nat, hx]
    simp) (by simp only [laws_eqByteS_s1, decide_eq_true_eq]; rw [if_neg (by omega)]) hl
  simpa using this
theorem markB_len {l : List Int} {k : Int} (hk : 0 ≤ k) (hs : k + l.length ≤ 9223372036854775807) : ∃ l', laws_markByteS l k = some (k + l.length, l') ∧ l'.length = l.length := by
  unfold laws_markByteS
  obtain ⟨t, h1, h2, h3⟩ := loop_rule (step := laws_markByteS_s1) (fun i s => s.2.1 = k + (i : Int) ∧ s.2.2 = (i : Int) ∧ s.1.length = l.length) (fun t => t.2 = k + (l.length : Int) ∧ t.1.length = l.length) l.length (by
    rintro i ⟨a, m, n⟩ hi ⟨hm, hn, ha⟩
    simp only at hm hn ha
    subst hm; subst hn
    simp only [laws_markByteS_s1, decide_eq_true_eq]
    rcases Nat.lt_or_ge i l.length with hh | hh
    · left
      obtain ⟨y, hy, _⟩ := get_lt (l := a) (i := i) (by omega)
      rw [if_pos (by omega), getI_nat, hy, Int.toNat_natCast, hy, w64 (n := k + i + 1) (by omega), w64 (n := (i : Int) + 1) (by omega)]
      exact ⟨hh, _, rfl, by simp; omega, by simp, by simp [ha]⟩
    · right
      obtain rfl : i = l.length := by omega
      rw [if_neg (by omega)]
      exact ⟨_, rfl, rfl, ha⟩) (s := (l, k, 0)) ⟨by simp, rfl, rfl⟩
  rw [h1]
  exact ⟨_, by simp [h2], h3⟩
theorem eqInt64SS_self {l : List (List Int)} (hl : (l.length : Int) ≤ 1048576) (hw : ∀ x ∈ l, (x.length : Int) ≤ 1048576) : laws_eqInt64SS l l = some true := by
  unfold laws_eqInt64SS
  rw [if_neg (by simp)]
  obtain ⟨t, h1, rfl⟩ := loop_rule (step := laws_eqInt64SS_s1 l l) (fun i s => s = (i : Int)) (fun t => t = .inl ()) l.length (by
    rintro i s hi rfl
    simp only [laws_eqInt64SS_s1, decide_eq_true_eq]
    rcases Nat.lt_or_ge i l.length with h | h
    · left
      obtain ⟨x, hx, hm⟩ := get_lt h
      rw [if_pos (by omega), getI_nat, hx, w64 (by omega)]
      simp only [Option.bind_some, laws_eqInt64S_self (l := x) (by have := hw x hm; unfold maxI; omega), if_true]
      exact ⟨h, _, rfl, by simp⟩
    · right
      rw [if_neg (by omega)]
      exact ⟨_, rfl, rfl⟩) (s := 0) rfl
  rw [h1]; rfl
def tot (l : List (List Int)) : Int := ((l.map List.length).sum : Nat)
theorem tot_cons {x : List Int} {l : List (List Int)} : tot (x :: l) = (x.length : Int) + tot l := by simp [tot]
theorem tot_nn {l : List (List Int)} : 0 ≤ tot l := by unfold tot; omega
theorem markSS_go : ∀ (r p : List (List Int)) (k : Int), 0 ≤ k → k + tot r ≤ 9223372036854775807 → p.length + r.length ≤ 1000000 →
    ∃ r', loopO laws_markInt64SS_s1 (p ++ r, k, (p.length : Int)) = some (p ++ r', k + tot r) ∧ r'.length = r.length ∧
      ∀ p' : List (List Int), p'.length = p.length → loopO (laws_heldInt64SS_s1 (p' ++ r')) (k, (p.length : Int)) = some (.inl (k + tot r))
  | [], p, k, h1, h2, h3 => by
    rw [loopO_eq]
    simp only [laws_markInt64SS_s1, decide_eq_true_eq]
    rw [if_neg (by simp)]
    refine ⟨[], by simp [tot], rfl, fun p' hp => ?_⟩
    rw [loopO_eq]
    simp only [laws_heldInt64SS_s1, decide_eq_true_eq]
    rw [if_neg (by simp; omega)]
    simp [tot]
  | x :: r, p, k, h1, h2, h3 => by
    rw [tot_cons] at h2
    have tn := tot_nn (l := r)
    simp at h3
    obtain ⟨x', m1, m2, m3⟩ := laws_markInt64S_eq (l := x) (k := k) h1 (by unfold maxI; omega)
    obtain ⟨r', q1, q2, q3⟩ := markSS_go r (p ++ [x']) (k + (x.length : Int)) (by omega) (by omega) (by simp; omega)
    refine ⟨x' :: r', ?_, by simp [q2], fun p' hp => ?_⟩
    · rw [loopO_eq]
      simp only [laws_markInt64SS_s1, decide_eq_true_eq]
      have g : (p ++ x :: r)[p.length]? = some x := by simp
      rw [if_pos (by simp; omega), getI_nat, g, Int.toNat_natCast, g]
      simp only [Option.bind_some, m1, m2, if_true]
      have e1 : (p ++ x :: r).set p.length x' = (p ++ [x']) ++ r := by simp
      have e2 : IntKind.i64.wrap ((p.length : Int) + 1) = ((p ++ [x']).length : Int) := by rw [w64 (by omega)]; simp
      rw [e1, e2, q1, tot_cons, List.append_assoc, Int.add_assoc]; rfl
    · rw [loopO_eq]
      simp only [laws_heldInt64SS_s1, decide_eq_true_eq]
      have g : (p' ++ x' :: r')[p.length]? = some x' := by rw [← hp]; simp
      rw [if_pos (by simp; omega), getI_nat, g]
      simp only [Option.bind_some, m3]
      rw [if_neg (by omega)]
      have e2 : IntKind.i64.wrap ((p.length : Int) + 1) = ((p ++ [x']).length : Int) := by rw [w64 (by omega)]; simp
      have q := q3 (p' ++ [x']) (by simp [hp])
      simp only []
      rw [e2]
      rw [List.append_assoc] at q
      rw [tot_cons, ← Int.add_assoc]
      exact q
theorem markSS_eq {l : List (List Int)} {k : Int} (h1 : 0 ≤ k) (h2 : k + tot l ≤ 9223372036854775807) (h3 : l.length ≤ 1000000) : ∃ l', laws_markInt64SS l k = some (k + tot l, l') ∧ l'.length = l.length ∧ laws_heldInt64SS l' k = some (k + tot l) := by
  obtain ⟨l', q1, q2, q3⟩ := markSS_go l [] k h1 h2 (by simp; omega)
  have q := q3 [] rfl
  simp only [List.nil_append, List.length_nil] at q q1
  refine ⟨l', ?_, q2, ?_⟩
  · unfold laws_markInt64SS
    exact (congrArg (fun o => Option.bind o _) q1).trans rfl
  · unfold laws_heldInt64SS
    exact (congrArg (fun o => Option.bind o _) q).trans rfl
structure PartSmall (p : SPart) : Prop where
  lows : p.Lows.length ≤ 1000
  gains : p.Gains.length ≤ 1000
  pulses : p.Pulses.length ≤ 1000
  pulse : ∀ x ∈ p.Pulses, x.length ≤ 1000
theorem tot_le {l : List (List Int)} {c : Nat} (h : ∀ x ∈ l, x.length ≤ c) : tot l ≤ c * l.length := by
  induction l with
  | nil => simp [tot]
  | cons x l ih =>
    have a := ih fun y hy => h y (by simp [hy])
    have b := h x (by simp)
    rw [tot_cons, List.length_cons]
    have e : ((l.length + 1 : Nat) : Int) = (l.length : Int) + 1 := by omega
    rw [e, Int.mul_add]
    omega
theorem markPart_eq {p : SPart} {k : Int} (h : PartSmall p) (hk : 0 ≤ k ∧ k ≤ 1152921504606846976) : ∃ p' k', laws_markPart_ooo p k = some (k', p') ∧ 0 ≤ k' ∧ k' ≤ k + 1100000 ∧ p'.Lows.length = p.Lows.length ∧ p'.Gains.length = p.Gains.length ∧ p'.Pulses.length = p.Pulses.length ∧
    ∀ a b c d e f, laws_heldPart ⟨a, b, c, d, e, f, p'.Lows, p'.Gains, p'.Pulses⟩ k = some k' := by
  obtain ⟨s1, s2, s3, s4⟩ := h
  have t := tot_le s4
  have tn := tot_nn (l := p.Pulses)
  have tb : ((1000 : Nat) : Int) * (p.Pulses.length : Int) ≤ 1000000 := by omega
  obtain ⟨a, a1, a2, a3⟩ := laws_markInt64S_eq (l := p.Lows) (k := k) hk.1 (by unfold maxI; omega)
  obtain ⟨b, b1, b2, b3⟩ := laws_markInt64S_eq (l := p.Gains) (k := k + (p.Lows.length : Int)) (by omega) (by unfold maxI; omega)
  obtain ⟨c, c1, c2, c3⟩ := markSS_eq (l := p.Pulses) (k := k + (p.Lows.length : Int) + (p.Gains.length : Int)) (by omega) (by omega) (by omega)
  unfold laws_markPart_ooo
  simp only [a1, a2, b1, b2, c1, c2, Option.bind_some, if_true]
  refine ⟨_, _, rfl, by omega, by omega, a2, b2, c2, fun _ _ _ _ _ _ => ?_⟩
  unfold laws_heldPart
  have d1 : ¬ k + (p.Lows.length : Int) < 0 := by omega
  have d2 : ¬ k + (p.Lows.length : Int) + (p.Gains.length : Int) < 0 := by omega
  have d3 : ¬ k + (p.Lows.length : Int) + (p.Gains.length : Int) + tot p.Pulses < 0 := by omega
  simp [a3, b3, c3, d1, d2, d3]
theorem eqPart_self {p : SPart} (h : PartSmall p) : laws_eqPart p p = some true := by
  obtain ⟨s1, s2, s3, s4⟩ := h
  unfold laws_eqPart laws_eqPart_u2 laws_eqPart_u1
  simp [laws_eqInt64S_self (l := p.Lows) (by unfold maxI; omega), laws_eqInt64S_self (l := p.Gains) (by unfold maxI; omega), eqInt64SS_self (l := p.Pulses) (by omega) (fun x hx => by have := s4 x hx; omega)]
--REST0
theorem part_small {p : SPart} (h : PartOk p) : PartSmall p := by
  have hb := bands_len (n := p.Size)
  have hl : p.Lows.length ≤ 8 := by have := h.nlow; rcases tdiv_half h.size with q | q | q <;> omega
  have hn := h.npul
  refine ⟨by omega, by have := h.ngain; omega, by omega, fun x hx => ?_⟩
  obtain ⟨i, hi⟩ := List.getElem?_of_mem hx
  have il : i < p.Pulses.length := (List.getElem?_eq_some_iff.1 hi).1
  obtain ⟨b, gb, _⟩ := get_lt (l := spec_l13Bands p.Size) (i := i) (by omega)
  have q := h.pul i b x gb hi
  have bd := band_dim gb
  split at q
  · omega
  · rw [q]; simp
theorem pure (d : List Int) (s : SAnchor) (hd : ((d.length : Int) ≤ maxI ∧ ∀ x ∈ d, WfI .u8 x)) (hs : SAnchor.Wf s) : laws_FnExactReadPart 64 d s = some true := by
  obtain ⟨hl, hb⟩ := hd
  have hb' : ∀ x ∈ d, 0 ≤ x ∧ x ≤ 255 := fun x hx => wfU8.1 (hb x hx)
  unfold laws_FnExactReadPart
  by_cases h1 : (d.length : Int) > 1048576
  · rw [if_pos (decide_eq_true h1)]
  rw [if_neg (by simpa using h1)]
  by_cases h2 : laws_szAnchor s 1048576 < 0
  · rw [if_pos (decide_eq_true h2)]
  rw [if_neg (by simpa using h2)]
  have hg0 := hs.2.2.2.1
  have hg : (s.Gains.length : Int) ≤ 1048576 := by
    unfold laws_szAnchor laws_szInt64S at h2
    by_cases q : IntKind.i64.wrap (1048576 - (s.Gains.length : Int)) < 0
    · simp [q] at h2
    · rw [w64 (by unfold maxI at hg0; omega)] at q; omega
  obtain ⟨r, r1, r2, r3, r4⟩ := readPart_same (prev := s) hb' hg0
  have ta : laws_toAnchor s = some s := by unfold laws_toAnchor; rw [laws_toInt64S_eq (by omega)]; rfl
  have tb : laws_toByteS d = some d := toByteS_eq (by omega)
  have sm : PartSmall r.Part := by
    by_cases hc : r.Code = 0
    · exact part_small (r3 hc)
    · rw [r4 hc]; exact ⟨by simp [noPart], by simp [noPart], by simp [noPart], by simp [noPart]⟩
  have eqr : laws_eqPartResult r r = some true := by unfold laws_eqPartResult; simp [eqPart_self sm]
  have eqa : laws_eqAnchor s s = some true := by unfold laws_eqAnchor; simp [laws_eqInt64S_self hg0]
  have eR : SPartResult.mk r.Code (SPart.mk r.Part.Number r.Part.Size r.Part.Rung r.Part.Mask r.Part.Spread r.Part.Side r.Part.Lows r.Part.Gains r.Part.Pulses) = r := rfl
  have eA : SAnchor.mk s.Known s.Number s.Rung s.Gains = s := rfl
  obtain ⟨m1, b1, b2⟩ := markB_len (l := d) (k := 1) (by omega) (by unfold maxI at hl; omega)
  obtain ⟨a', a1, a2, a3⟩ := laws_markInt64S_eq (l := s.Gains) (k := 1 + (d.length : Int)) (by omega) (by unfold maxI; omega)
  have am : laws_markAnchor_o s (1 + (d.length : Int)) = some (1 + (d.length : Int) + (s.Gains.length : Int), ⟨s.Known, s.Number, s.Rung, a'⟩) := by unfold laws_markAnchor_o; simp [a1, a2]
  obtain ⟨p', k', p1, p2, p3, p4, p5, p6, p7⟩ := markPart_eq (k := 1) sm (by omega)
  have pm : laws_markPartResult_ooo r 1 = some (k', ⟨r.Code, ⟨r.Part.Number, r.Part.Size, r.Part.Rung, r.Part.Mask, r.Part.Spread, r.Part.Side, p'.Lows, p'.Gains, p'.Pulses⟩⟩) := by
    unfold laws_markPartResult_ooo
    simp [p1, p4, p5, p6]
  have hh : ∀ c a b e f g h, laws_heldPartResult ⟨c, ⟨a, b, e, f, g, h, p'.Lows, p'.Gains, p'.Pulses⟩⟩ 1 = some k' := fun c a b e f g h => by
    unfold laws_heldPartResult
    have : ¬ k' < 0 := by omega
    simp [p7, this]
  have d1 : ¬ (1 + (d.length : Int) + (s.Gains.length : Int) < 0) := by omega
  have d2 : ¬ k' < 0 := by omega
  simp only [laws_FnExactReadPart_u1, eA, tb, ta, r1, Option.bind_some, r2, eR, eqr, if_true, laws_FnExactReadPart_u7, eqB_self hl, eqa, b1, b2, laws_FnExactReadPart_u6, am, a2, laws_FnExactReadPart_u2, d1, decide_false, Bool.false_eq_true, if_false, Bool.not_true, pm, p4, p5, p6, and_self, laws_FnExactReadPart_u5, hh, d2, bne_self_eq_false, laws_FnExactReadPart_u3, laws_FnExactReadPart_u4]
end FnExactReadPart
end Go.Proofs.YtimgmahlbodfiaaGreatDoor.Wm
