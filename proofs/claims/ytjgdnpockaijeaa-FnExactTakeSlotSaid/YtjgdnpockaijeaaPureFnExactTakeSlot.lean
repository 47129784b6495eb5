/- What FnExactTakeSlot comes to on plain values: true. -/
import Derived.Test.YtjgdnpockaijeaaFnFnExactTakeSlot
set_option linter.unusedSimpArgs false
set_option linter.unusedVariables false
set_option maxRecDepth 100000
namespace Go.Proofs.Ytjgdnpockaijeaa.Wm
open Go
namespace FnExactTakeSlot
theorem spec_l1In_eq {a b c : Int} : spec_l1In a b c = decide (b ≤ a ∧ a ≤ c) := by
  simp only [spec_l1In, spec_l1In_u1, decide_eq_true_eq]
  by_cases h1 : b ≤ a <;> by_cases h2 : a ≤ c <;> simp [h1, h2]
theorem impl_inRange_eq {a b c : Int} : impl_inRange a b c = decide (b ≤ a ∧ a ≤ c) := by
  simp only [impl_inRange, impl_inRange_u1, decide_eq_true_eq]
  by_cases h1 : b ≤ a <;> by_cases h2 : a ≤ c <;> simp [h1, h2]
def firstL : List Int → Int
  | [] => 0
  | x :: l => if x ≠ 0 then x else firstL l
theorem firstL_skip : ∀ {i : Nat} {l : List Int}, (∀ j x, j < i → l[j]? = some x → x = 0) → firstL l = firstL (l.drop i)
  | 0, l, h => by simp
  | i + 1, [], h => by simp
  | i + 1, x :: l, h => by
    have := h 0 x (by omega) rfl
    subst this
    simp only [firstL, ne_eq, not_true, if_false, List.drop_succ_cons]
    exact firstL_skip fun j x hj hx => h (j + 1) x (by omega) (by simpa using hx)
theorem impl_first_eq {l : List Int} (hl : (l.length : Int) ≤ maxI) : impl_first l = some (firstL l) := by
  unfold maxI at hl
  unfold impl_first
  obtain ⟨t, h1, h2⟩ := loop_rule (step := impl_first_s1 l (l.length : Int)) (fun i s => s = (i : Int) ∧ ∀ j x, j < i → l[j]? = some x → x = 0)
      (fun t => (t = .inl () ∧ firstL l = 0) ∨ (t = .inr (firstL l))) l.length (by
    rintro i s hi ⟨rfl, hj⟩
    simp only [impl_first_s1, decide_eq_true_eq]
    rcases Nat.lt_or_ge i l.length with h | h
    · obtain ⟨x, hx, hm⟩ := get_lt h
      rw [if_pos (by omega), getI_nat, hx, w64 (by omega)]
      simp only [Option.bind_some, bne_iff_ne, ne_eq]
      by_cases hp : x = 0
      · left
        rw [if_neg (by simp [hp])]
        refine ⟨h, _, rfl, by simp, fun j y hj' hy => ?_⟩
        rcases Nat.lt_or_ge j i with hji | hji
        · exact hj j y hji hy
        · obtain rfl : j = i := by omega
          rw [hx] at hy; obtain rfl := Option.some.inj hy; exact hp
      · right
        rw [if_pos hp]
        refine ⟨_, rfl, .inr ?_⟩
        rw [firstL_skip hj, List.drop_eq_getElem_cons h, firstL]
        have : l[i] = x := by rw [List.getElem?_eq_getElem h] at hx; exact Option.some.inj hx
        rw [this, if_pos hp]
    · right
      rw [if_neg (by omega)]
      refine ⟨_, rfl, .inl ⟨rfl, ?_⟩⟩
      rw [firstL_skip hj, List.drop_eq_nil_of_le h]; rfl) (s := 0) ⟨rfl, fun j x hj => by omega⟩
  rw [h1]
  rcases h2 with ⟨rfl, h⟩ | rfl
  · simp [h]
  · simp
theorem impl_codeIf_eq {b : Bool} {c : Int} : impl_codeIf b c = if b = true then c else 0 := rfl
theorem eq_any {l m : List Int} {step : Int → Option (Int ⊕ (Unit ⊕ Unit))} (h1 : ∀ (i : Nat) (x y : Int), l[i]? = some x → m[i]? = some y → step i = some (if (x == y) = true then .inl (IntKind.i64.wrap ((i : Int) + 1)) else .inr (.inr ())))
    (h2 : step (l.length : Int) = some (.inr (.inl ()))) (hl : (l.length : Int) ≤ maxI) :
    (if ((l.length : Int) != (m.length : Int)) = true then some false else (loopO step 0).bind fun t => (Sum.elim (fun _ => some true) (fun _ => some false)) t) = some (decide (l = m)) := by
  by_cases hlen : l.length = m.length
  · rw [if_neg (by simp [hlen]), same_loop (fun x y => x == y) hlen h1 h2 hl, allSame_eq hlen]
  · rw [if_pos (by simp; omega), decide_eq_false (fun e => hlen (by rw [e]))]
theorem u8w {n : Int} : 0 ≤ IntKind.u8.wrap n ∧ IntKind.u8.wrap n ≤ 255 := by simp [IntKind.wrap, IntKind.bits, IntKind.signed]; omega
theorem laws_heldByteS_eq {l : List Int} {k : Int} (hk : 0 ≤ k) (hs : k + l.length ≤ maxI) (h : ∀ (j : Nat), j < l.length → l[j]? = some (IntKind.u8.wrap (k + j))) : laws_heldByteS l k = some (k + l.length) := by
  unfold maxI at hs
  unfold laws_heldByteS
  obtain ⟨t, h1, rfl⟩ := loop_rule (step := laws_heldByteS_s1 l) (fun i s => s = (k + (i : Int), (i : Int))) (fun t => t = .inl (k + (l.length : Int))) l.length (by
    rintro i s hi rfl
    simp only [laws_heldByteS_s1, decide_eq_true_eq]
    rcases Nat.lt_or_ge i l.length with hh | hh
    · left
      rw [if_pos (by omega), getI_nat, h i hh, w64 (by omega), w64 (by omega)]
      simp only [Option.bind_some, bne_self_eq_false, Bool.false_eq_true, if_false]
      exact ⟨hh, _, rfl, by simp only [Prod.mk.injEq]; omega⟩
    · right
      obtain rfl : i = l.length := by omega
      rw [if_neg (by omega)]
      exact ⟨_, rfl, rfl⟩) (s := (k, 0)) (by simp)
  rw [h1]; rfl
theorem laws_markByteS_eq {l : List Int} {k : Int} (hk : 0 ≤ k) (hs : k + l.length ≤ maxI) : ∃ l', laws_markByteS l k = some (k + l.length, l') ∧ l'.length = l.length ∧ laws_heldByteS l' k = some (k + l.length) := by
  have hs' := hs
  unfold maxI at hs
  unfold laws_markByteS
  obtain ⟨t, h1, h2, h3, h4⟩ := loop_rule (step := laws_markByteS_s1) (fun i s => s.2.1 = k + (i : Int) ∧ s.2.2 = (i : Int) ∧ s.1.length = l.length ∧ ∀ (j : Nat), j < i → s.1[j]? = some (IntKind.u8.wrap (k + j))) (fun t => t.2 = k + (l.length : Int) ∧ t.1.length = l.length ∧ ∀ (j : Nat), j < l.length → t.1[j]? = some (IntKind.u8.wrap (k + j))) l.length (by
    rintro i ⟨a, m, n⟩ hi ⟨hm, hn, ha, hj⟩
    simp only at hm hn ha hj
    subst hm; subst hn
    simp only [laws_markByteS_s1, decide_eq_true_eq]
    rcases Nat.lt_or_ge i l.length with hh | hh
    · left
      obtain ⟨y, hy, _⟩ := get_lt (l := a) (i := i) (by omega)
      rw [if_pos (by omega), getI_nat, hy, Int.toNat_natCast, hy, w64 (n := k + i + 1) (by omega), w64 (n := (i : Int) + 1) (by omega)]
      refine ⟨hh, _, rfl, by simp; omega, by simp, by simp [ha], fun j hj' => ?_⟩
      simp only [List.getElem?_set]
      split
      · rename_i e; subst e; rw [if_pos (by omega)]
      · exact hj j (by omega)
    · right
      obtain rfl : i = l.length := by omega
      rw [if_neg (by omega)]
      exact ⟨_, rfl, rfl, ha, hj⟩) (s := (l, k, 0)) ⟨by simp, rfl, rfl, fun j hj => by omega⟩
  rw [h1]
  obtain ⟨a, b⟩ := t
  simp only at h2 h3 h4
  subst h2
  refine ⟨a, rfl, h3, ?_⟩
  have := laws_heldByteS_eq (l := a) hk (by rw [h3]; exact hs') (by rw [h3]; exact h4)
  rw [h3] at this
  exact this
def DecOk (d : SDecoder) : Prop := d.Data.length ≤ 600 ∧ (0 ≤ d.At ∧ d.At ≤ 10000) ∧ (65536 ≤ d.Range ∧ d.Range ≤ 16777216) ∧ (0 ≤ d.Rest ∧ d.Rest ≤ d.Range - 1)
def SlotOk (s : SSlot) : Prop := (1 ≤ s.Total ∧ s.Total ≤ 1024) ∧ (1 ≤ s.Size ∧ s.Size ≤ s.Total) ∧ 0 ≤ s.Low ∧ s.Low ≤ s.Total - s.Size
theorem decFault_all (d : SDecoder) : impl_DecoderFault d = some (spec_DecoderFault d) ∧ (spec_DecoderFault d = 0 ↔ DecOk d) := by
  unfold impl_DecoderFault spec_DecoderFault DecOk
  have hf : ∀ a b : Int, impl_first [a, b] = some (firstL [a, b]) := fun a b => impl_first_eq (by simp [maxI])
  simp only [impl_DecoderFault_u1, spec_DecoderFault_u1, spec_l1In_eq, impl_inRange_eq, impl_codeIf_eq, hf, Option.bind_some, decide_eq_true_eq, firstL]
  have hc : ((d.Data.length : Int) > 600) ↔ ¬ d.Data.length ≤ 600 := by omega
  simp only [hc]
  by_cases h2 : 0 ≤ d.At ∧ d.At ≤ 10000
  · by_cases h3 : 65536 ≤ d.Range ∧ d.Range ≤ 16777216
    · rw [w64 (by omega)]
      by_cases h1 : d.Data.length ≤ 600 <;> by_cases h4 : 0 ≤ d.Rest ∧ d.Rest ≤ d.Range - 1 <;> simp [h1, h2, h3, h4]
    · by_cases h1 : d.Data.length ≤ 600 <;> simp [h1, h2, h3]
  · by_cases h1 : d.Data.length ≤ 600 <;> simp [h1, h2]
theorem slotFault_all (s : SSlot) : impl_SlotFault s = spec_SlotFault s ∧ (spec_SlotFault s = 0 ↔ SlotOk s) := by
  unfold impl_SlotFault spec_SlotFault SlotOk
  simp only [impl_SlotFault_u1, spec_SlotFault_u1, spec_l1In_eq, impl_inRange_eq, impl_codeIf_eq, decide_eq_true_eq]
  by_cases h1 : 1 ≤ s.Total ∧ s.Total ≤ 1024
  · by_cases h2 : 1 ≤ s.Size ∧ s.Size ≤ s.Total
    · rw [w64 (by omega)]
      by_cases h3 : 0 ≤ s.Low ∧ s.Low ≤ s.Total - s.Size <;> simp [h1, h2, h3]
    · simp [h1, h2]
  · simp [h1]
theorem unit_ge {r t : Int} (hr : 65536 ≤ r) (ht : 1 ≤ t ∧ t ≤ 1024) : 64 ≤ r / t ∧ r / t ≤ r := ⟨Int.le_ediv_of_mul_le (by omega) (by omega), Int.ediv_le_self _ (by omega)⟩
def valI (d : SDecoder) (t : Int) : Int := if d.Rest / (d.Range / t) < t - 1 then d.Rest / (d.Range / t) else t - 1
theorem value_same {d : SDecoder} (h : DecOk d) {t : Int} (ht : 1 ≤ t ∧ t ≤ 1024) : spec_l3Value d t = some (valI d t) ∧ impl_Decoder_value d t = some (valI d t) ∧ 0 ≤ valI d t ∧ valI d t < t := by
  obtain ⟨_, _, h3, h4⟩ := h
  obtain ⟨u1, u2⟩ := unit_ge h3.1 ht
  unfold spec_l3Value impl_Decoder_value valI
  rw [Int.tdiv_eq_ediv_of_nonneg (by omega)]
  generalize d.Range / t = u at *
  have n1 : ¬ t = 0 := by omega
  have n2 : ¬ u = 0 := by omega
  rw [w64 (n := u) (by omega)]
  simp only [n1, n2, if_false]
  rw [Int.tdiv_eq_ediv_of_nonneg h4.1]
  have e1 : 0 ≤ d.Rest / u := Int.ediv_nonneg h4.1 (by omega)
  have e2 : d.Rest / u ≤ d.Rest := Int.ediv_le_self _ h4.1
  generalize d.Rest / u = v at *
  rw [w64 (n := v) (by omega), w64 (n := t - 1) (by omega)]
  simp only [spec_l1Min, mnI, decide_eq_true_eq]
  by_cases c : v < t - 1
  · simp only [c, if_true]; rw [if_neg (by omega)]; exact ⟨trivial, rfl, by omega, by omega⟩
  · simp only [c, if_false]
    refine ⟨trivial, ?_, by omega, by omega⟩
    split
    · rfl
    · congr 1; omega
def widthI (r : Int) (s : SSlot) : Int := if s.Low + s.Size = s.Total then r - r / s.Total * s.Low else r / s.Total * s.Size
theorem unit_mul {r : Int} {s : SSlot} (hr : 65536 ≤ r) (hs : SlotOk s) : r / s.Total * s.Low + r / s.Total * s.Size = r / s.Total * (s.Low + s.Size) ∧ r / s.Total * (s.Low + s.Size) ≤ r ∧ 0 ≤ r / s.Total * s.Low ∧ 64 ≤ r / s.Total * s.Size := by
  obtain ⟨h1, h2, h3, h4⟩ := hs
  obtain ⟨u1, u2⟩ := unit_ge hr h1
  have e := Int.ediv_mul_le r (show s.Total ≠ 0 by omega)
  have a := Int.mul_le_mul_of_nonneg_left (show s.Low + s.Size ≤ s.Total by omega) (show 0 ≤ r / s.Total by omega)
  have b := Int.mul_nonneg (show 0 ≤ r / s.Total by omega) h3
  have c := Int.mul_le_mul u1 h2.1 (by omega) (show 0 ≤ r / s.Total by omega)
  exact ⟨(Int.mul_add _ _ _).symm, by omega, b, by omega⟩
theorem narrow_same {r : Int} {s : SSlot} (hr : 65536 ≤ r ∧ r ≤ 16777216) (hs : SlotOk s) : spec_l3Narrow r s = some (widthI r s) ∧ impl_narrowed r s = some (r / s.Total * s.Low, widthI r s) ∧ IntKind.i64.wrap ((IntKind.i64.wrap (r.tdiv s.Total)) * s.Low) = r / s.Total * s.Low ∧ 64 ≤ widthI r s ∧ widthI r s ≤ 16777216 := by
  obtain ⟨m1, m2, m3, m4⟩ := unit_mul hr.1 hs
  obtain ⟨h1, h2, h3, h4⟩ := hs
  obtain ⟨u1, u2⟩ := unit_ge hr.1 h1
  unfold spec_l3Narrow impl_narrowed widthI
  rw [Int.tdiv_eq_ediv_of_nonneg (by omega), w64 (n := r / s.Total) (by omega), w64 (n := r / s.Total * s.Low) (by omega), w64 (n := r / s.Total * s.Size) (by omega), w64 (n := r - r / s.Total * s.Low) (by omega), w64 (n := s.Low + s.Size) (by omega)]
  have n1 : ¬ s.Total = 0 := by omega
  simp only [beq_iff_eq, n1, if_false]
  by_cases c : s.Low + s.Size = s.Total
  · simp only [c, if_true, true_and]
    rw [c] at m1 m2
    omega
  · simp only [c, if_false, true_and]
    omega
def byteAt (l : List Int) (a : Int) : Int := (l[a.toNat]?).getD 0
theorem byteAt_ok {l : List Int} {a : Int} (hb : ∀ x ∈ l, 0 ≤ x ∧ x ≤ 255) : 0 ≤ byteAt l a ∧ byteAt l a ≤ 255 := by
  unfold byteAt
  rcases Nat.lt_or_ge a.toNat l.length with h | h
  · obtain ⟨x, hx, hm⟩ := get_lt h
    rw [hx]; exact hb x hm
  · rw [List.getElem?_eq_none h]; simp
theorem byte_spec {l : List Int} {a : Int} (hb : ∀ x ∈ l, 0 ≤ x ∧ x ≤ 255) (h0 : 0 ≤ a) : spec_l3Byte l a = some (byteAt l a) := by
  unfold spec_l3Byte byteAt
  simp only [decide_eq_true_eq]
  obtain ⟨n, rfl⟩ : ∃ n : Nat, a = n := ⟨a.toNat, by omega⟩
  rcases Nat.lt_or_ge n l.length with h | h
  · obtain ⟨x, hx, hm⟩ := get_lt h
    have := hb x hm
    rw [if_pos (by omega), getI_nat, Int.toNat_natCast, hx]
    simp only [Option.bind_some, Option.getD_some]
    rw [w64 (by omega)]
  · rw [if_neg (by omega), Int.toNat_natCast, List.getElem?_eq_none h]; rfl
theorem next_impl {d : SDecoder} (hb : ∀ x ∈ d.Data, 0 ≤ x ∧ x ≤ 255) (h0 : 0 ≤ d.At ∧ d.At ≤ 1000000) : impl_Decoder_next_o d = some (byteAt d.Data d.At, d.Data, d.At + 1) := by
  unfold impl_Decoder_next_o byteAt
  simp only [decide_eq_true_eq]
  have e1 : IntKind.i64.wrap (d.At + 1) = d.At + 1 := w64 (by omega)
  have e2 : IntKind.i64.wrap (d.At + 1 - 1) = d.At := by rw [w64 (by omega)]; omega
  rw [e1, e2]
  generalize d.At = a at *
  obtain ⟨n, rfl⟩ : ∃ n : Nat, a = n := ⟨a.toNat, by omega⟩
  rcases Nat.lt_or_ge n d.Data.length with h | h
  · obtain ⟨x, hx, hm⟩ := get_lt h
    have := hb x hm
    rw [if_neg (by omega), getI_nat, Int.toNat_natCast, hx]
    simp only [Option.bind_some, Option.getD_some]
    rw [w64 (by omega)]
  · rw [if_pos (by omega), Int.toNat_natCast, List.getElem?_eq_none h]; rfl
theorem turn_same {l : List Int} (hb : ∀ x ∈ l, 0 ≤ x ∧ x ≤ 255) : ∀ (m : Nat) (a r w : Int), 65536 ≤ w * 256 ^ m → 0 < w → w ≤ 16777216 → 0 ≤ r → r ≤ w - 1 → 0 ≤ a → a + m ≤ 100000 →
    ∃ a' r' w', loopO (spec_l3Take_o_s1 l) (a, r, w) = some (a', r', w') ∧ loopO impl_Decoder_take_o_s2 (l, a, r, w) = some (l, a', r', w') ∧ a ≤ a' ∧ a' ≤ a + m ∧ (65536 ≤ w' ∧ w' ≤ 16777216) ∧ 0 ≤ r' ∧ r' ≤ w' - 1 := by
  intro m
  induction m with
  | zero =>
    intro a r w h1 h2 h3 h4 h5 h6 h7
    have h1' : 65536 ≤ w := by simpa using h1
    refine ⟨a, r, w, ?_, ?_, by omega, by omega, by omega, by omega⟩
    · rw [loopO_eq, spec_l3Take_o_s1]; simp only [decide_eq_true_eq]; rw [if_neg (by omega)]
    · rw [loopO_eq, impl_Decoder_take_o_s2]; simp only [decide_eq_true_eq]; rw [if_neg (by omega)]
  | succ m ih =>
    intro a r w h1 h2 h3 h4 h5 h6 h7
    by_cases hw : w < 65536
    · obtain ⟨b0, b1⟩ := byteAt_ok (l := l) (a := a) hb
      obtain ⟨a', r', w', q1, q2, q3, q4, q5, q6⟩ := ih (a + 1) (r * 256 + byteAt l a) (w * 256) (by rw [Int.pow_succ, Int.mul_comm (256 ^ m) 256, ← Int.mul_assoc] at h1; exact h1) (by omega) (by omega) (by omega) (by omega) (by omega) (by omega)
      refine ⟨a', r', w', ?_, ?_, by omega, by omega, q5, q6⟩
      · rw [loopO_eq, spec_l3Take_o_s1]
        simp only [decide_eq_true_eq]
        rw [if_pos hw, byte_spec hb h6, w64 (n := a + 1) (by omega), w64 (n := r * 256) (by omega), w64 (n := w * 256) (by omega)]
        simp only [Option.bind_some]
        rw [w64 (by omega)]
        exact q1
      · rw [loopO_eq, impl_Decoder_take_o_s2]
        simp only [decide_eq_true_eq, impl_Decoder_take_o_u1]
        rw [if_pos hw, next_impl (d := ⟨l, a, r, w⟩) hb (by simp only []; omega), w64 (n := r * 256) (by omega), w64 (n := w * 256) (by omega)]
        simp only [Option.bind_some]
        rw [w64 (by omega)]
        exact q2
    · refine ⟨a, r, w, ?_, ?_, by omega, by omega, by omega, by omega⟩
      · rw [loopO_eq, spec_l3Take_o_s1]; simp only [decide_eq_true_eq]; rw [if_neg (by omega)]
      · rw [loopO_eq, impl_Decoder_take_o_s2]; simp only [decide_eq_true_eq]; rw [if_neg (by omega)]
theorem take_same {d : SDecoder} {s : SSlot} (hd : DecOk d) (hb : ∀ x ∈ d.Data, 0 ≤ x ∧ x ≤ 255) (hs : SlotOk s) (hv : s.Low ≤ valI d s.Total ∧ valI d s.Total ≤ s.Low + s.Size - 1) :
    ∃ a r w, spec_l3Take_o d s = some (d.Data, a, r, w) ∧ impl_Decoder_take_o d s = some (d.Data, a, r, w) ∧ d.At ≤ a ∧ a ≤ d.At + 2 ∧ (65536 ≤ w ∧ w ≤ 16777216) ∧ 0 ≤ r ∧ r ≤ w - 1 := by
  obtain ⟨d1, d2, d3, d4⟩ := hd
  obtain ⟨n1, n2, n3, n4, n5⟩ := narrow_same d3 hs
  obtain ⟨m1, m2, m3, m4⟩ := unit_mul d3.1 hs
  obtain ⟨h1, h2, h3, h4⟩ := hs
  obtain ⟨u1, u2⟩ := unit_ge d3.1 h1
  have lo : d.Range / s.Total * s.Low ≤ d.Rest := by
    have q : s.Low ≤ d.Rest / (d.Range / s.Total) := by unfold valI at hv; split at hv <;> omega
    have := Int.mul_le_of_le_ediv (by omega) q
    rw [Int.mul_comm]; exact this
  have hi : d.Rest - d.Range / s.Total * s.Low ≤ widthI d.Range s - 1 := by
    unfold widthI
    split
    · omega
    · rename_i c
      have q : d.Rest / (d.Range / s.Total) < s.Low + s.Size := by unfold valI at hv; split at hv <;> omega
      have := Int.lt_mul_of_ediv_lt (by omega) q
      rw [Int.mul_comm] at this
      omega
  obtain ⟨a, r, w, q1, q2, q3, q4, q5, q6⟩ := turn_same hb 2 d.At (d.Rest - d.Range / s.Total * s.Low) (widthI d.Range s) (by simp only [Int.reducePow]; omega) (by omega) n5 (by omega) hi d2.1 (by omega)
  have hw : IntKind.i64.wrap (d.Rest - d.Range / s.Total * s.Low) = d.Rest - d.Range / s.Total * s.Low := w64 (by omega)
  refine ⟨a, r, w, ?_, ?_, q3, by omega, q5, q6⟩
  · unfold spec_l3Take_o
    rw [if_neg (by omega), n1, n3, hw]
    simp only [Option.bind_some, q1]
  · unfold impl_Decoder_take_o
    rw [n2]
    simp only [Option.bind_some]
    rw [hw, q2]; rfl
theorem takeSlot_same {d : SDecoder} {s : SSlot} (hb : ∀ x ∈ d.Data, 0 ≤ x ∧ x ≤ 255) : ∃ w, spec_TakeSlot d s = some w ∧ impl_TakeSlot d s = some w ∧ w.Decoder.Data.length ≤ 600 ∧ (∀ x ∈ w.Decoder.Data, 0 ≤ x ∧ x ≤ 255) ∧ (w.Code = 0 → DecOk w.Decoder) := by
  obtain ⟨f1, f2⟩ := decFault_all d
  obtain ⟨g1, g2⟩ := slotFault_all s
  have fail : ∀ c : Int, c ≠ 0 → (SDecoderResult.mk c ⟨[], 0, 0, 0⟩).Decoder.Data.length ≤ 600 ∧ (∀ x ∈ (SDecoderResult.mk c ⟨[], 0, 0, 0⟩).Decoder.Data, 0 ≤ x ∧ x ≤ 255) ∧ ((SDecoderResult.mk c ⟨[], 0, 0, 0⟩).Code = 0 → DecOk (SDecoderResult.mk c ⟨[], 0, 0, 0⟩).Decoder) := fun c hc => ⟨by simp, by simp, fun h => absurd h hc⟩
  have hf : ∀ a b c : Int, impl_first [a, b, c] = some (firstL [a, b, c]) := fun a b c => impl_first_eq (by simp [maxI])
  unfold spec_TakeSlot impl_TakeSlot
  simp only [f1, g1, Option.bind_some, hf, firstL, impl_codeIf_eq, decide_eq_true_eq, bne_iff_ne, impl_TakeSlot_u1, impl_TakeSlot_u2, spec_TakeSlot_u1]
  by_cases c1 : spec_DecoderFault d = 0
  · by_cases c2 : spec_SlotFault s = 0
    · by_cases c3 : d.At > 9996
      · refine ⟨⟨7, ⟨[], 0, 0, 0⟩⟩, ?_, ?_, fail 7 (by decide)⟩ <;> simp [c1, c2, c3]
      · have hd := f2.1 c1
        have hs := g2.1 c2
        obtain ⟨v1, v2, v3, v4⟩ := value_same hd hs.1
        have e1 : IntKind.i64.wrap (s.Low + s.Size) = s.Low + s.Size := w64 (by unfold SlotOk at hs; omega)
        have e2 : IntKind.i64.wrap (s.Low + s.Size - 1) = s.Low + s.Size - 1 := w64 (by unfold SlotOk at hs; omega)
        have eD : ∀ t : SDecoder, SDecoder.mk t.Data t.At t.Rest t.Range = t := fun _ => rfl
        have cp : spec_l1Copy d.Data = some d.Data := by unfold spec_l1Copy; rw [if_pos (okApp_of (by have := hd.1; omega))]
        have cl : slices_Clone_byte d.Data = some d.Data := by unfold slices_Clone_byte; rw [if_pos (okApp_of (by have := hd.1; omega))]
        simp only [c1, c2, c3, ne_eq, not_true, if_false, v1, v2, e1, e2, Option.bind_some, beq_self_eq_true, if_true, spec_l1In_eq, impl_inRange_eq, decide_eq_true_eq, eD, cp, cl]
        by_cases c4 : s.Low ≤ valI d s.Total ∧ valI d s.Total ≤ s.Low + s.Size - 1
        · obtain ⟨a, r, w, t1, t2, t3, t4, t5, t6⟩ := take_same hd hb hs c4
          refine ⟨⟨0, ⟨d.Data, a, r, w⟩⟩, ?_, ?_, hd.1, hb, fun _ => ⟨hd.1, ⟨?_, ?_⟩, t5, t6⟩⟩
          · simp [c4, t1]
          · simp [c4, t2]
          · have := hd.2.1; simp only []; omega
          · simp only []; omega
        · refine ⟨⟨8, ⟨[], 0, 0, 0⟩⟩, ?_, ?_, fail 8 (by decide)⟩
          · rw [if_neg c4]
          · simp [c4]
    · refine ⟨⟨spec_SlotFault s, ⟨[], 0, 0, 0⟩⟩, ?_, ?_, fail _ c2⟩ <;> simp [c1, c2]
  · refine ⟨⟨spec_DecoderFault d, ⟨[], 0, 0, 0⟩⟩, ?_, ?_, fail _ c1⟩ <;> simp [c1]
--REST0
--REST0
theorem eqByteS_self {l : List Int} (hl : (l.length : Int) ≤ maxI) : laws_eqByteS l l = some true := by
  unfold laws_eqByteS
  have := eq_any (l := l) (m := l) (step := laws_eqByteS_s1 l l) (fun i x y hx hy => by
    have hi : i < l.length := (List.getElem?_eq_some_iff.1 hx).1
    simp only [laws_eqByteS_s1, decide_eq_true_eq]
    obtain rfl : x = y := by rw [hx] at hy; exact Option.some.inj hy
    rw [if_pos (by omega), getI_nat, hx]
    simp) (by simp only [laws_eqByteS_s1, decide_eq_true_eq]; rw [if_neg (by omega)]) hl
  simpa using this
theorem eqDecoder_self {s : SDecoder} (hl : (s.Data.length : Int) ≤ maxI) : laws_eqDecoder s s = some true := by
  unfold laws_eqDecoder
  simp [eqByteS_self hl]
theorem eqRes_self {s : SDecoderResult} (hl : (s.Decoder.Data.length : Int) ≤ maxI) : laws_eqDecoderResult s s = some true := by
  unfold laws_eqDecoderResult
  simp [eqDecoder_self hl]
theorem toDecoder_eq {s : SDecoder} (hl : (s.Data.length : Int) ≤ 1048576) : laws_toDecoder s = some s := by
  have : laws_toByteS s.Data = some s.Data := by
    generalize s.Data = l at hl
    unfold laws_toByteS
    rw [if_pos (okMake_of (by omega) (by simp; omega) (by omega)), Int.toNat_natCast, copy_loop (fun a i x y hx hy ha => ?_) (fun a => ?_) (by unfold maxI; omega)]
    · rfl
    · have hi : i < l.length := (List.getElem?_eq_some_iff.1 hx).1
      simp only [laws_toByteS_s1, decide_eq_true_eq]
      rw [if_pos (by omega), getI_nat, hx, getI_nat, hy, Int.toNat_natCast, hy]; rfl
    · simp only [laws_toByteS_s1, decide_eq_true_eq]; rw [if_neg (by omega)]
  unfold laws_toDecoder; rw [this]; rfl
theorem pure (a : SDecoder) (s : SSlot) (ha : a.Wf) (hs : s.Wf) : laws_FnExactTakeSlot a s = some true := by
  obtain ⟨⟨hl, hb⟩, _⟩ := ha
  have hb' : ∀ x ∈ a.Data, 0 ≤ x ∧ x ≤ 255 := fun x hx => wfU8.1 (hb x hx)
  unfold laws_FnExactTakeSlot
  simp only [decide_eq_true_eq]
  split
  · rfl
  · rename_i h
    have hl2 : (a.Data.length : Int) ≤ 1048576 := by
      unfold maxI at hl
      simp only [laws_szDecoder, laws_szByteS, decide_eq_true_eq] at h
      rw [w64 (by omega)] at h
      by_cases q : (1048576 : Int) - a.Data.length < 0
      · simp [q] at h
      · omega
    obtain ⟨w, h1, h2, h3, h4, _⟩ := takeSlot_same (d := a) (s := s) hb'
    have et : laws_toDecoder a = some a := toDecoder_eq hl2
    have er : laws_toSlot s = s := rfl
    have eS : ∀ (t : SDecoder), SDecoder.mk t.Data t.At t.Rest t.Range = t := fun _ => rfl
    have eR : ∀ (t : SSlot), SSlot.mk t.Low t.Size t.Total = t := fun _ => rfl
    have eW : ∀ (t : SDecoderResult), SDecoderResult.mk t.Code t.Decoder = t := fun _ => rfl
    have hw6 : (w.Decoder.Data.length : Int) ≤ maxI := by unfold maxI; omega
    simp only [laws_FnExactTakeSlot_u1, laws_FnExactTakeSlot_u2, eS, eR, er, et, Option.bind_some, h1, h2, eW, eqRes_self hw6, eqDecoder_self hl, if_true]
    obtain ⟨m1, k1, k2, k3⟩ := laws_markByteS_eq (l := a.Data) (k := 1) (by omega) (by unfold maxI; omega)
    obtain ⟨m2, j1, j2, j3⟩ := laws_markByteS_eq (l := w.Decoder.Data) (k := 1) (by omega) (by unfold maxI; omega)
    have d1 : decide (1 + (a.Data.length : Int) < 0) = false := decide_eq_false (by omega)
    have d2 : decide (1 + (w.Decoder.Data.length : Int) < 0) = false := decide_eq_false (by omega)
    simp only [laws_FnExactTakeSlot_u7, laws_markDecoder_o, laws_markDecoderResult_o, k1, Option.bind_some, k2, if_true, laws_FnExactTakeSlot_u3, eS, eW, eqRes_self hw6, j1, j2, d1, Bool.false_eq_true, if_false, Bool.not_true, laws_FnExactTakeSlot_u6, laws_heldDecoderResult, laws_heldDecoder, j3, d2, bne_self_eq_false, laws_FnExactTakeSlot_u4, eR, er, et, h2, laws_FnExactTakeSlot_u5]
end FnExactTakeSlot
end Go.Proofs.Ytjgdnpockaijeaa.Wm
