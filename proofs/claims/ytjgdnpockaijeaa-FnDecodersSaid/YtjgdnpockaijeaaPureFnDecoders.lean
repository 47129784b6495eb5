/- What FnDecoders comes to on plain values: true. -/
import Derived.Test.YtjgdnpockaijeaaFnFnDecoders
set_option linter.unusedSimpArgs false
set_option linter.unusedVariables false
set_option maxRecDepth 100000
namespace Go.Proofs.Ytjgdnpockaijeaa.Wm
open Go
namespace FnDecoders
theorem spec_l1In_eq {a b c : Int} : spec_l1In a b c = decide (b ≤ a ∧ a ≤ c) := by
  simp only [spec_l1In, spec_l1In_u1, decide_eq_true_eq]
  by_cases h1 : b ≤ a <;> by_cases h2 : a ≤ c <;> simp [h1, h2]
theorem impl_inRange_eq {a b c : Int} : impl_inRange a b c = decide (b ≤ a ∧ a ≤ c) := by
  simp only [impl_inRange, impl_inRange_u1, decide_eq_true_eq]
  by_cases h1 : b ≤ a <;> by_cases h2 : a ≤ c <;> simp [h1, h2]
def firstL : List Int → Int
  | [] => 0
  | x :: l => if x ≠ 0 then x else firstL l
theorem firstL_skip : ∀ {i : Nat} {l : List Int}, (∀ j x, j < i → l[j]? = some x → x = 0) → firstL l = firstL (l.drop i)
  | 0, l, h => by simp
  | i + 1, [], h => by simp
  | i + 1, x :: l, h => by
    have := h 0 x (by omega) rfl
    subst this
    simp only [firstL, ne_eq, not_true, if_false, List.drop_succ_cons]
    exact firstL_skip fun j x hj hx => h (j + 1) x (by omega) (by simpa using hx)
theorem impl_first_eq {l : List Int} (hl : (l.length : Int) ≤ maxI) : impl_first l = some (firstL l) := by
  unfold maxI at hl
  unfold impl_first
  obtain ⟨t, h1, h2⟩ := loop_rule (step := impl_first_s1 l (l.length : Int)) (fun i s => s = (i : Int) ∧ ∀ j x, j < i → l[j]? = some x → x = 0)
      (fun t => (t = .inl () ∧ firstL l = 0) ∨ (t = .inr (firstL l))) l.length (by
    rintro i s hi ⟨rfl, hj⟩
    simp only [impl_first_s1, decide_eq_true_eq]
    rcases Nat.lt_or_ge i l.length with h | h
    · obtain ⟨x, hx, hm⟩ := get_lt h
      rw [if_pos (by omega), getI_nat, hx, w64 (by omega)]
      simp only [Option.bind_some, bne_iff_ne, ne_eq]
      by_cases hp : x = 0
      · left
        rw [if_neg (by simp [hp])]
        refine ⟨h, _, rfl, by simp, fun j y hj' hy => ?_⟩
        rcases Nat.lt_or_ge j i with hji | hji
        · exact hj j y hji hy
        · obtain rfl : j = i := by omega
          rw [hx] at hy; obtain rfl := Option.some.inj hy; exact hp
      · right
        rw [if_pos hp]
        refine ⟨_, rfl, .inr ?_⟩
        rw [firstL_skip hj, List.drop_eq_getElem_cons h, firstL]
        have : l[i] = x := by rw [List.getElem?_eq_getElem h] at hx; exact Option.some.inj hx
        rw [this, if_pos hp]
    · right
      rw [if_neg (by omega)]
      refine ⟨_, rfl, .inl ⟨rfl, ?_⟩⟩
      rw [firstL_skip hj, List.drop_eq_nil_of_le h]; rfl) (s := 0) ⟨rfl, fun j x hj => by omega⟩
  rw [h1]
  rcases h2 with ⟨rfl, h⟩ | rfl
  · simp [h]
  · simp
theorem impl_codeIf_eq {b : Bool} {c : Int} : impl_codeIf b c = if b = true then c else 0 := rfl
def DecOk (d : SDecoder) : Prop := d.Data.length ≤ 600 ∧ (0 ≤ d.At ∧ d.At ≤ 10000) ∧ (65536 ≤ d.Range ∧ d.Range ≤ 16777216) ∧ (0 ≤ d.Rest ∧ d.Rest ≤ d.Range - 1)
def SlotOk (s : SSlot) : Prop := (1 ≤ s.Total ∧ s.Total ≤ 1024) ∧ (1 ≤ s.Size ∧ s.Size ≤ s.Total) ∧ 0 ≤ s.Low ∧ s.Low ≤ s.Total - s.Size
theorem decFault_all (d : SDecoder) : impl_DecoderFault d = some (spec_DecoderFault d) ∧ (spec_DecoderFault d = 0 ↔ DecOk d) := by
  unfold impl_DecoderFault spec_DecoderFault DecOk
  have hf : ∀ a b : Int, impl_first [a, b] = some (firstL [a, b]) := fun a b => impl_first_eq (by simp [maxI])
  simp only [impl_DecoderFault_u1, spec_DecoderFault_u1, spec_l1In_eq, impl_inRange_eq, impl_codeIf_eq, hf, Option.bind_some, decide_eq_true_eq, firstL]
  have hc : ((d.Data.length : Int) > 600) ↔ ¬ d.Data.length ≤ 600 := by omega
  simp only [hc]
  by_cases h2 : 0 ≤ d.At ∧ d.At ≤ 10000
  · by_cases h3 : 65536 ≤ d.Range ∧ d.Range ≤ 16777216
    · rw [w64 (by omega)]
      by_cases h1 : d.Data.length ≤ 600 <;> by_cases h4 : 0 ≤ d.Rest ∧ d.Rest ≤ d.Range - 1 <;> simp [h1, h2, h3, h4]
    · by_cases h1 : d.Data.length ≤ 600 <;> simp [h1, h2, h3]
  · by_cases h1 : d.Data.length ≤ 600 <;> simp [h1, h2]
theorem slotFault_all (s : SSlot) : impl_SlotFault s = spec_SlotFault s ∧ (spec_SlotFault s = 0 ↔ SlotOk s) := by
  unfold impl_SlotFault spec_SlotFault SlotOk
  simp only [impl_SlotFault_u1, spec_SlotFault_u1, spec_l1In_eq, impl_inRange_eq, impl_codeIf_eq, decide_eq_true_eq]
  by_cases h1 : 1 ≤ s.Total ∧ s.Total ≤ 1024
  · by_cases h2 : 1 ≤ s.Size ∧ s.Size ≤ s.Total
    · rw [w64 (by omega)]
      by_cases h3 : 0 ≤ s.Low ∧ s.Low ≤ s.Total - s.Size <;> simp [h1, h2, h3]
    · simp [h1, h2]
  · simp [h1]
theorem unit_ge {r t : Int} (hr : 65536 ≤ r) (ht : 1 ≤ t ∧ t ≤ 1024) : 64 ≤ r / t ∧ r / t ≤ r := ⟨Int.le_ediv_of_mul_le (by omega) (by omega), Int.ediv_le_self _ (by omega)⟩
def valI (d : SDecoder) (t : Int) : Int := if d.Rest / (d.Range / t) < t - 1 then d.Rest / (d.Range / t) else t - 1
theorem value_same {d : SDecoder} (h : DecOk d) {t : Int} (ht : 1 ≤ t ∧ t ≤ 1024) : spec_l3Value d t = some (valI d t) ∧ impl_Decoder_value d t = some (valI d t) ∧ 0 ≤ valI d t ∧ valI d t < t := by
  obtain ⟨_, _, h3, h4⟩ := h
  obtain ⟨u1, u2⟩ := unit_ge h3.1 ht
  unfold spec_l3Value impl_Decoder_value valI
  rw [Int.tdiv_eq_ediv_of_nonneg (by omega)]
  generalize d.Range / t = u at *
  have n1 : ¬ t = 0 := by omega
  have n2 : ¬ u = 0 := by omega
  rw [w64 (n := u) (by omega)]
  simp only [n1, n2, if_false]
  rw [Int.tdiv_eq_ediv_of_nonneg h4.1]
  have e1 : 0 ≤ d.Rest / u := Int.ediv_nonneg h4.1 (by omega)
  have e2 : d.Rest / u ≤ d.Rest := Int.ediv_le_self _ h4.1
  generalize d.Rest / u = v at *
  rw [w64 (n := v) (by omega), w64 (n := t - 1) (by omega)]
  simp only [spec_l1Min, mnI, decide_eq_true_eq]
  by_cases c : v < t - 1
  · simp only [c, if_true]; rw [if_neg (by omega)]; exact ⟨trivial, rfl, by omega, by omega⟩
  · simp only [c, if_false]
    refine ⟨trivial, ?_, by omega, by omega⟩
    split
    · rfl
    · congr 1; omega
def widthI (r : Int) (s : SSlot) : Int := if s.Low + s.Size = s.Total then r - r / s.Total * s.Low else r / s.Total * s.Size
theorem unit_mul {r : Int} {s : SSlot} (hr : 65536 ≤ r) (hs : SlotOk s) : r / s.Total * s.Low + r / s.Total * s.Size = r / s.Total * (s.Low + s.Size) ∧ r / s.Total * (s.Low + s.Size) ≤ r ∧ 0 ≤ r / s.Total * s.Low ∧ 64 ≤ r / s.Total * s.Size := by
  obtain ⟨h1, h2, h3, h4⟩ := hs
  obtain ⟨u1, u2⟩ := unit_ge hr h1
  have e := Int.ediv_mul_le r (show s.Total ≠ 0 by omega)
  have a := Int.mul_le_mul_of_nonneg_left (show s.Low + s.Size ≤ s.Total by omega) (show 0 ≤ r / s.Total by omega)
  have b := Int.mul_nonneg (show 0 ≤ r / s.Total by omega) h3
  have c := Int.mul_le_mul u1 h2.1 (by omega) (show 0 ≤ r / s.Total by omega)
  exact ⟨(Int.mul_add _ _ _).symm, by omega, b, by omega⟩
theorem narrow_same {r : Int} {s : SSlot} (hr : 65536 ≤ r ∧ r ≤ 16777216) (hs : SlotOk s) : spec_l3Narrow r s = some (widthI r s) ∧ impl_narrowed r s = some (r / s.Total * s.Low, widthI r s) ∧ IntKind.i64.wrap ((IntKind.i64.wrap (r.tdiv s.Total)) * s.Low) = r / s.Total * s.Low ∧ 64 ≤ widthI r s ∧ widthI r s ≤ 16777216 := by
  obtain ⟨m1, m2, m3, m4⟩ := unit_mul hr.1 hs
  obtain ⟨h1, h2, h3, h4⟩ := hs
  obtain ⟨u1, u2⟩ := unit_ge hr.1 h1
  unfold spec_l3Narrow impl_narrowed widthI
  rw [Int.tdiv_eq_ediv_of_nonneg (by omega), w64 (n := r / s.Total) (by omega), w64 (n := r / s.Total * s.Low) (by omega), w64 (n := r / s.Total * s.Size) (by omega), w64 (n := r - r / s.Total * s.Low) (by omega), w64 (n := s.Low + s.Size) (by omega)]
  have n1 : ¬ s.Total = 0 := by omega
  simp only [beq_iff_eq, n1, if_false]
  by_cases c : s.Low + s.Size = s.Total
  · simp only [c, if_true, true_and]
    rw [c] at m1 m2
    omega
  · simp only [c, if_false, true_and]
    omega
def byteAt (l : List Int) (a : Int) : Int := (l[a.toNat]?).getD 0
theorem byteAt_ok {l : List Int} {a : Int} (hb : ∀ x ∈ l, 0 ≤ x ∧ x ≤ 255) : 0 ≤ byteAt l a ∧ byteAt l a ≤ 255 := by
  unfold byteAt
  rcases Nat.lt_or_ge a.toNat l.length with h | h
  · obtain ⟨x, hx, hm⟩ := get_lt h
    rw [hx]; exact hb x hm
  · rw [List.getElem?_eq_none h]; simp
theorem byte_spec {l : List Int} {a : Int} (hb : ∀ x ∈ l, 0 ≤ x ∧ x ≤ 255) (h0 : 0 ≤ a) : spec_l3Byte l a = some (byteAt l a) := by
  unfold spec_l3Byte byteAt
  simp only [decide_eq_true_eq]
  obtain ⟨n, rfl⟩ : ∃ n : Nat, a = n := ⟨a.toNat, by omega⟩
  rcases Nat.lt_or_ge n l.length with h | h
  · obtain ⟨x, hx, hm⟩ := get_lt h
    have := hb x hm
    rw [if_pos (by omega), getI_nat, Int.toNat_natCast, hx]
    simp only [Option.bind_some, Option.getD_some]
    rw [w64 (by omega)]
  · rw [if_neg (by omega), Int.toNat_natCast, List.getElem?_eq_none h]; rfl
theorem next_impl {d : SDecoder} (hb : ∀ x ∈ d.Data, 0 ≤ x ∧ x ≤ 255) (h0 : 0 ≤ d.At ∧ d.At ≤ 1000000) : impl_Decoder_next_o d = some (byteAt d.Data d.At, d.Data, d.At + 1) := by
  unfold impl_Decoder_next_o byteAt
  simp only [decide_eq_true_eq]
  have e1 : IntKind.i64.wrap (d.At + 1) = d.At + 1 := w64 (by omega)
  have e2 : IntKind.i64.wrap (d.At + 1 - 1) = d.At := by rw [w64 (by omega)]; omega
  rw [e1, e2]
  generalize d.At = a at *
  obtain ⟨n, rfl⟩ : ∃ n : Nat, a = n := ⟨a.toNat, by omega⟩
  rcases Nat.lt_or_ge n d.Data.length with h | h
  · obtain ⟨x, hx, hm⟩ := get_lt h
    have := hb x hm
    rw [if_neg (by omega), getI_nat, Int.toNat_natCast, hx]
    simp only [Option.bind_some, Option.getD_some]
    rw [w64 (by omega)]
  · rw [if_pos (by omega), Int.toNat_natCast, List.getElem?_eq_none h]; rfl
theorem turn_same {l : List Int} (hb : ∀ x ∈ l, 0 ≤ x ∧ x ≤ 255) : ∀ (m : Nat) (a r w : Int), 65536 ≤ w * 256 ^ m → 0 < w → w ≤ 16777216 → 0 ≤ r → r ≤ w - 1 → 0 ≤ a → a + m ≤ 100000 →
    ∃ a' r' w', loopO (spec_l3Take_o_s1 l) (a, r, w) = some (a', r', w') ∧ loopO impl_Decoder_take_o_s2 (l, a, r, w) = some (l, a', r', w') ∧ a ≤ a' ∧ a' ≤ a + m ∧ (65536 ≤ w' ∧ w' ≤ 16777216) ∧ 0 ≤ r' ∧ r' ≤ w' - 1 := by
  intro m
  induction m with
  | zero =>
    intro a r w h1 h2 h3 h4 h5 h6 h7
    have h1' : 65536 ≤ w := by simpa using h1
    refine ⟨a, r, w, ?_, ?_, by omega, by omega, by omega, by omega⟩
    · rw [loopO_eq, spec_l3Take_o_s1]; simp only [decide_eq_true_eq]; rw [if_neg (by omega)]
    · rw [loopO_eq, impl_Decoder_take_o_s2]; simp only [decide_eq_true_eq]; rw [if_neg (by omega)]
  | succ m ih =>
    intro a r w h1 h2 h3 h4 h5 h6 h7
    by_cases hw : w < 65536
    · obtain ⟨b0, b1⟩ := byteAt_ok (l := l) (a := a) hb
      obtain ⟨a', r', w', q1, q2, q3, q4, q5, q6⟩ := ih (a + 1) (r * 256 + byteAt l a) (w * 256) (by rw [Int.pow_succ, Int.mul_comm (256 ^ m) 256, ← Int.mul_assoc] at h1; exact h1) (by omega) (by omega) (by omega) (by omega) (by omega) (by omega)
      refine ⟨a', r', w', ?_, ?_, by omega, by omega, q5, q6⟩
      · rw [loopO_eq, spec_l3Take_o_s1]
        simp only [decide_eq_true_eq]
        rw [if_pos hw, byte_spec hb h6, w64 (n := a + 1) (by omega), w64 (n := r * 256) (by omega), w64 (n := w * 256) (by omega)]
        simp only [Option.bind_some]
        rw [w64 (by omega)]
        exact q1
      · rw [loopO_eq, impl_Decoder_take_o_s2]
        simp only [decide_eq_true_eq, impl_Decoder_take_o_u1]
        rw [if_pos hw, next_impl (d := ⟨l, a, r, w⟩) hb (by simp only []; omega), w64 (n := r * 256) (by omega), w64 (n := w * 256) (by omega)]
        simp only [Option.bind_some]
        rw [w64 (by omega)]
        exact q2
    · refine ⟨a, r, w, ?_, ?_, by omega, by omega, by omega, by omega⟩
      · rw [loopO_eq, spec_l3Take_o_s1]; simp only [decide_eq_true_eq]; rw [if_neg (by omega)]
      · rw [loopO_eq, impl_Decoder_take_o_s2]; simp only [decide_eq_true_eq]; rw [if_neg (by omega)]
theorem take_same {d : SDecoder} {s : SSlot} (hd : DecOk d) (hb : ∀ x ∈ d.Data, 0 ≤ x ∧ x ≤ 255) (hs : SlotOk s) (hv : s.Low ≤ valI d s.Total ∧ valI d s.Total ≤ s.Low + s.Size - 1) :
    ∃ a r w, spec_l3Take_o d s = some (d.Data, a, r, w) ∧ impl_Decoder_take_o d s = some (d.Data, a, r, w) ∧ d.At ≤ a ∧ a ≤ d.At + 2 ∧ (65536 ≤ w ∧ w ≤ 16777216) ∧ 0 ≤ r ∧ r ≤ w - 1 := by
  obtain ⟨d1, d2, d3, d4⟩ := hd
  obtain ⟨n1, n2, n3, n4, n5⟩ := narrow_same d3 hs
  obtain ⟨m1, m2, m3, m4⟩ := unit_mul d3.1 hs
  obtain ⟨h1, h2, h3, h4⟩ := hs
  obtain ⟨u1, u2⟩ := unit_ge d3.1 h1
  have lo : d.Range / s.Total * s.Low ≤ d.Rest := by
    have q : s.Low ≤ d.Rest / (d.Range / s.Total) := by unfold valI at hv; split at hv <;> omega
    have := Int.mul_le_of_le_ediv (by omega) q
    rw [Int.mul_comm]; exact this
  have hi : d.Rest - d.Range / s.Total * s.Low ≤ widthI d.Range s - 1 := by
    unfold widthI
    split
    · omega
    · rename_i c
      have q : d.Rest / (d.Range / s.Total) < s.Low + s.Size := by unfold valI at hv; split at hv <;> omega
      have := Int.lt_mul_of_ediv_lt (by omega) q
      rw [Int.mul_comm] at this
      omega
  obtain ⟨a, r, w, q1, q2, q3, q4, q5, q6⟩ := turn_same hb 2 d.At (d.Rest - d.Range / s.Total * s.Low) (widthI d.Range s) (by simp only [Int.reducePow]; omega) (by omega) n5 (by omega) hi d2.1 (by omega)
  have hw : IntKind.i64.wrap (d.Rest - d.Range / s.Total * s.Low) = d.Rest - d.Range / s.Total * s.Low := w64 (by omega)
  refine ⟨a, r, w, ?_, ?_, q3, by omega, q5, q6⟩
  · unfold spec_l3Take_o
    rw [if_neg (by omega), n1, n3, hw]
    simp only [Option.bind_some, q1]
  · unfold impl_Decoder_take_o
    rw [n2]
    simp only [Option.bind_some]
    rw [hw, q2]; rfl
theorem takeSlot_same {d : SDecoder} {s : SSlot} (hb : ∀ x ∈ d.Data, 0 ≤ x ∧ x ≤ 255) : ∃ w, spec_TakeSlot d s = some w ∧ impl_TakeSlot d s = some w ∧ w.Decoder.Data.length ≤ 600 ∧ (∀ x ∈ w.Decoder.Data, 0 ≤ x ∧ x ≤ 255) ∧ (w.Code = 0 → DecOk w.Decoder) := by
  obtain ⟨f1, f2⟩ := decFault_all d
  obtain ⟨g1, g2⟩ := slotFault_all s
  have fail : ∀ c : Int, c ≠ 0 → (SDecoderResult.mk c ⟨[], 0, 0, 0⟩).Decoder.Data.length ≤ 600 ∧ (∀ x ∈ (SDecoderResult.mk c ⟨[], 0, 0, 0⟩).Decoder.Data, 0 ≤ x ∧ x ≤ 255) ∧ ((SDecoderResult.mk c ⟨[], 0, 0, 0⟩).Code = 0 → DecOk (SDecoderResult.mk c ⟨[], 0, 0, 0⟩).Decoder) := fun c hc => ⟨by simp, by simp, fun h => absurd h hc⟩
  have hf : ∀ a b c : Int, impl_first [a, b, c] = some (firstL [a, b, c]) := fun a b c => impl_first_eq (by simp [maxI])
  unfold spec_TakeSlot impl_TakeSlot
  simp only [f1, g1, Option.bind_some, hf, firstL, impl_codeIf_eq, decide_eq_true_eq, bne_iff_ne, impl_TakeSlot_u1, impl_TakeSlot_u2, spec_TakeSlot_u1]
  by_cases c1 : spec_DecoderFault d = 0
  · by_cases c2 : spec_SlotFault s = 0
    · by_cases c3 : d.At > 9996
      · refine ⟨⟨7, ⟨[], 0, 0, 0⟩⟩, ?_, ?_, fail 7 (by decide)⟩ <;> simp [c1, c2, c3]
      · have hd := f2.1 c1
        have hs := g2.1 c2
        obtain ⟨v1, v2, v3, v4⟩ := value_same hd hs.1
        have e1 : IntKind.i64.wrap (s.Low + s.Size) = s.Low + s.Size := w64 (by unfold SlotOk at hs; omega)
        have e2 : IntKind.i64.wrap (s.Low + s.Size - 1) = s.Low + s.Size - 1 := w64 (by unfold SlotOk at hs; omega)
        have eD : ∀ t : SDecoder, SDecoder.mk t.Data t.At t.Rest t.Range = t := fun _ => rfl
        have cp : spec_l1Copy d.Data = some d.Data := by unfold spec_l1Copy; rw [if_pos (okApp_of (by have := hd.1; omega))]
        have cl : slices_Clone_byte d.Data = some d.Data := by unfold slices_Clone_byte; rw [if_pos (okApp_of (by have := hd.1; omega))]
        simp only [c1, c2, c3, ne_eq, not_true, if_false, v1, v2, e1, e2, Option.bind_some, beq_self_eq_true, if_true, spec_l1In_eq, impl_inRange_eq, decide_eq_true_eq, eD, cp, cl]
        by_cases c4 : s.Low ≤ valI d s.Total ∧ valI d s.Total ≤ s.Low + s.Size - 1
        · obtain ⟨a, r, w, t1, t2, t3, t4, t5, t6⟩ := take_same hd hb hs c4
          refine ⟨⟨0, ⟨d.Data, a, r, w⟩⟩, ?_, ?_, hd.1, hb, fun _ => ⟨hd.1, ⟨?_, ?_⟩, t5, t6⟩⟩
          · simp [c4, t1]
          · simp [c4, t2]
          · have := hd.2.1; simp only []; omega
          · simp only []; omega
        · refine ⟨⟨8, ⟨[], 0, 0, 0⟩⟩, ?_, ?_, fail 8 (by decide)⟩
          · rw [if_neg c4]
          · simp [c4]
    · refine ⟨⟨spec_SlotFault s, ⟨[], 0, 0, 0⟩⟩, ?_, ?_, fail _ c2⟩ <;> simp [c1, c2]
  · refine ⟨⟨spec_DecoderFault d, ⟨[], 0, 0, 0⟩⟩, ?_, ?_, fail _ c1⟩ <;> simp [c1]
theorem tmod_nn {a b : Int} (ha : 0 ≤ a) (hb : 0 < b) : 0 ≤ a.tmod b ∧ a.tmod b < b := by
  rw [Int.tmod_eq_emod_of_nonneg ha]
  exact ⟨Int.emod_nonneg _ (by omega), Int.emod_lt_of_pos _ hb⟩
def SrcOk (c : List Int) (s : Sl1Src) (k : Int) : Prop := s.Code = c ∧ 0 ≤ s.At ∧ s.At ≤ k
theorem get_mod {c : List Int} {a : Int} (hc : ∀ x ∈ c, 0 ≤ x ∧ x ≤ 255) (ha : 0 ≤ a) (hn : 0 < c.length) : ∃ x, getI c (a.tmod (c.length : Int)) = some x ∧ 0 ≤ x ∧ x ≤ 255 := by
  obtain ⟨h1, h2⟩ := tmod_nn ha (b := (c.length : Int)) (by omega)
  obtain ⟨x, hx, hm⟩ := get_lt (l := c) (i := (a.tmod (c.length : Int)).toNat) (by omega)
  exact ⟨x, by unfold getI; rw [if_pos h1, hx], hc x hm⟩
theorem next_ok {c : List Int} {s : Sl1Src} {k p : Int} (hc : ∀ x ∈ c, 0 ≤ x ∧ x ≤ 255) (hl : (c.length : Int) ≤ 2000000) (hs : SrcOk c s k) (hk : k ≤ 1000000) (hp : 1 ≤ p ∧ p ≤ 100000000) :
    ∃ r, spec_l1Next s p = some (r, ⟨c, s.At + 1⟩) ∧ 0 ≤ r ∧ r < p := by
  obtain ⟨rfl, h0, h1⟩ := hs
  have e1 : IntKind.i64.wrap (s.At + 1) = s.At + 1 := w64 (by omega)
  have e2 : IntKind.i64.wrap (s.At + 1 - 1) = s.At := by rw [w64 (by omega)]; omega
  unfold spec_l1Next
  rw [if_neg (by simp; omega)]
  simp only [e1, e2]
  rcases Nat.eq_zero_or_pos s.Code.length with hz | hz
  · rw [if_pos (by simp [hz]), if_neg (by omega), w64 (by omega)]
    obtain ⟨q1, q2⟩ := tmod_nn (a := s.At * 7) (b := p) (by omega) (by omega)
    exact ⟨_, rfl, q1, q2⟩
  · have hne : ¬ (s.Code.length : Int) = 0 := by omega
    rw [if_neg (by simp; intro h; rw [h] at hz; simp at hz)]
    simp only [hne, if_false]
    obtain ⟨x, hx, hx0, hx1⟩ := get_mod hc h0 hz
    rw [hx]
    simp only [Option.bind_some]
    have hd : 0 ≤ s.At.tdiv (s.Code.length : Int) ∧ s.At.tdiv (s.Code.length : Int) ≤ s.At := by
      rw [Int.tdiv_eq_ediv_of_nonneg h0]
      exact ⟨Int.ediv_nonneg h0 (by omega), Int.ediv_le_self _ h0⟩
    generalize s.At.tdiv (s.Code.length : Int) = d at hd
    rw [w64 (n := x) (by omega), w64 (n := d) (by omega), w64 (n := d * 37) (by omega), w64 (n := x + d * 37) (by omega)]
    have u1 : ∃ v, spec_l1Next_u1 s.Code (s.At + 1) p s.At (s.Code.length : Int) (x + d * 37) (decide (p > 200)) = some v ∧ 0 ≤ v ∧ v ≤ 10000000000 := by
      unfold spec_l1Next_u1
      split
      · rw [w64 (n := s.At + 1) (by omega)]
        obtain ⟨y, hy, hy0, hy1⟩ := get_mod (a := s.At + 1) hc (by omega) hz
        rw [hy]
        simp only [Option.bind_some]
        rw [w64 (n := y) (by omega), w64 (n := y * 13) (by omega), w64 (n := (x + d * 37) * 251) (by omega), w64 (n := (x + d * 37) * 251 + y * 13) (by omega), w64 (n := (x + d * 37) * 251 + y * 13 + s.At) (by omega)]
        exact ⟨_, rfl, by omega, by omega⟩
      · exact ⟨_, rfl, by omega, by omega⟩
    obtain ⟨v, hv, hv0, hv1⟩ := u1
    rw [hv]
    simp only [Option.bind_some]
    have u2 : ∃ v', spec_l1Next_u2 s.Code (s.At + 1) p s.At (s.Code.length : Int) v (decide (p > 60000)) = some v' ∧ 0 ≤ v' := by
      unfold spec_l1Next_u2
      split
      · rw [w64 (n := s.At + 2) (by omega)]
        obtain ⟨y, hy, hy0, hy1⟩ := get_mod (a := s.At + 2) hc (by omega) hz
        rw [hy]
        simp only [Option.bind_some]
        rw [w64 (n := y) (by omega), w64 (n := v * 257) (by omega), w64 (n := v * 257 + y) (by omega)]
        exact ⟨_, rfl, by omega⟩
      · exact ⟨_, rfl, hv0⟩
    obtain ⟨v', hv', hv'0⟩ := u2
    rw [hv']
    simp only [Option.bind_some]
    rw [if_neg (by omega)]
    obtain ⟨q1, q2⟩ := tmod_nn (a := v') (b := p) hv'0 (by omega)
    exact ⟨_, rfl, q1, q2⟩
theorem pick_ok {c : List Int} {s : Sl1Src} {k : Int} {l : List Int} (hc : ∀ x ∈ c, 0 ≤ x ∧ x ≤ 255) (hl : (c.length : Int) ≤ 2000000) (hs : SrcOk c s k) (hk : k ≤ 1000000) (hn : 0 < l.length ∧ l.length ≤ 1000000) :
    ∃ r s', spec_l1Pick s l = some (r, s') ∧ r ∈ l ∧ SrcOk c s' (k + 1) := by
  unfold spec_l1Pick
  obtain ⟨r, h1, h2, h3⟩ := next_ok (p := (l.length : Int)) hc hl hs hk (by omega)
  obtain ⟨x, hx, hm⟩ := get_lt (l := l) (i := r.toNat) (by omega)
  rw [h1]
  obtain ⟨_, a1, a2⟩ := hs
  refine ⟨x, ⟨c, s.At + 1⟩, ?_, hm, rfl, by (first | omega | (simp only []; omega)), by (first | omega | (simp only []; omega))⟩
  simp only [Option.bind_some]
  unfold getI
  rw [if_pos h2, hx]; rfl
theorem source_ok {c : List Int} : SrcOk c (spec_l1Source c) 0 := by unfold SrcOk spec_l1Source; simp
theorem next_ok2 {c : List Int} {s : Sl1Src} {k p : Int} (hc : ∀ x ∈ c, 0 ≤ x ∧ x ≤ 255) (hl : (c.length : Int) ≤ 2000000) (hs : SrcOk c s k) (hk : k ≤ 1000000) (hp : 1 ≤ p ∧ p ≤ 100000000) :
    ∃ r s', spec_l1Next s p = some (r, s') ∧ 0 ≤ r ∧ r < p ∧ SrcOk c s' (k + 1) := by
  obtain ⟨r, h1, h2, h3⟩ := next_ok hc hl hs hk hp
  obtain ⟨_, a1, a2⟩ := hs
  exact ⟨r, _, h1, h2, h3, rfl, by (first | omega | (simp only []; omega)), by (first | omega | (simp only []; omega))⟩
theorem SrcOk.mono {c : List Int} {s : Sl1Src} {k m : Int} (h : SrcOk c s k) (hm : k ≤ m) : SrcOk c s m := ⟨h.1, h.2.1, by have := h.2.2; omega⟩
theorem src_eta (t : Sl1Src) : Sl1Src.mk t.Code t.At = t := rfl
theorem some_ok {c : List Int} {s : Sl1Src} {k n : Int} (hc : ∀ x ∈ c, 0 ≤ x ∧ x ≤ 255) (hl : (c.length : Int) ≤ 2000000) (hs : SrcOk c s k) (hk : k ≤ 900000) (hn : 0 ≤ n ∧ n ≤ 90000) :
    ∃ l s', spec_l1Some s n = some (l, s') ∧ (l.length : Int) = n ∧ (∀ x ∈ l, 0 ≤ x ∧ x ≤ 255) ∧ SrcOk c s' (k + n) := by
  unfold spec_l1Some
  obtain ⟨n, rfl⟩ : ∃ m : Nat, n = m := ⟨n.toNat, by omega⟩
  obtain ⟨t, h1, h2, h3, h4⟩ := loop_rule (step := spec_l1Some_s1) (fun i u => u.2.2.2 = (n : Int) - i ∧ u.1.length = i ∧ (∀ x ∈ u.1, 0 ≤ x ∧ x ≤ 255) ∧ SrcOk c ⟨u.2.1, u.2.2.1⟩ (k + i))
      (fun t => t.1.length = n ∧ (∀ x ∈ t.1, 0 ≤ x ∧ x ≤ 255) ∧ SrcOk c ⟨t.2.1, t.2.2⟩ (k + n)) n (by
    rintro i ⟨w, co, at_, cnt⟩ hi ⟨g1, g2, g3, g4⟩
    simp only at g1 g2 g3 g4
    subst g1
    simp only [spec_l1Some_s1, decide_eq_true_eq]
    rcases Nat.lt_or_ge i n with hh | hh
    · left
      obtain ⟨r, s', e, e1, e2, e3⟩ := next_ok2 (p := 256) hc hl g4 (by omega) (by omega)
      rw [if_pos (by omega), e]
      simp only [Option.bind_some]
      rw [if_pos (okApp_of (by simp; omega)), w64 (by omega)]
      refine ⟨hh, _, rfl, by simp only []; omega, by simp [g2], fun x hx => ?_, ?_⟩
      · rcases List.mem_append.1 hx with hx | hx
        · exact g3 x hx
        · simp at hx; subst hx; rw [wu8 (by omega)]; omega
      · have : k + (i : Int) + 1 = k + ((i + 1 : Nat) : Int) := by omega
        rw [← this]; exact e3
    · right
      obtain rfl : i = n := by omega
      rw [if_neg (by omega)]
      exact ⟨_, rfl, g2, g3, g4⟩) (s := ([], s.Code, s.At, (n : Int))) ⟨by simp, rfl, by simp, by simpa using hs⟩
  rw [h1]
  exact ⟨_, _, rfl, by omega, h3, h4⟩
theorem start_ok {l : List Int} (hb : ∀ x ∈ l, 0 ≤ x ∧ x ≤ 255) (hl : l.length ≤ 600) : ∃ d, spec_l3Start l = some d ∧ DecOk d ∧ d.Data = l ∧ d.At = 3 := by
  unfold spec_l3Start
  obtain ⟨a0, a1⟩ := byteAt_ok (l := l) (a := 0) hb
  obtain ⟨b0, b1⟩ := byteAt_ok (l := l) (a := 1) hb
  obtain ⟨c0, c1⟩ := byteAt_ok (l := l) (a := 2) hb
  have cp : spec_l1Copy l = some l := by unfold spec_l1Copy; rw [if_pos (okApp_of (by omega))]
  simp only [byte_spec hb (show (0 : Int) ≤ 0 by omega), byte_spec hb (show (0 : Int) ≤ 1 by omega), byte_spec hb (show (0 : Int) ≤ 2 by omega), cp, Option.bind_some]
  generalize byteAt l 0 = x at *
  generalize byteAt l 1 = y at *
  generalize byteAt l 2 = z at *
  rw [w64 (n := x * 65536) (by omega), w64 (n := y * 256) (by omega), w64 (n := x * 65536 + y * 256) (by omega), w64 (by omega)]
  exact ⟨_, rfl, ⟨hl, by simp only []; omega, by simp only []; omega, by simp only []; omega⟩, rfl, rfl⟩
theorem drawDec_ok {c : List Int} {s : Sl1Src} {k : Int} (hc : ∀ x ∈ c, 0 ≤ x ∧ x ≤ 255) (hl : (c.length : Int) ≤ 2000000) (hs : SrcOk c s k) (hk : k ≤ 800000) :
    ∃ d s', spec_l3Decoder s = some (d, s') ∧ d.Data.length ≤ 601 ∧ (∀ x ∈ d.Data, 0 ≤ x ∧ x ≤ 255) ∧ SrcOk c s' (k + 1000) := by
  unfold spec_l3Decoder
  obtain ⟨r1, s1, h1, m1, k1⟩ := pick_ok (l := [0, 1, 3, 8, 20]) hc hl hs (by omega) (by simp)
  have hr1 : 0 ≤ r1 ∧ r1 ≤ 20 := by simp at m1; omega
  obtain ⟨l, s2, h2, l1, l2, k2⟩ := some_ok (n := r1) hc hl k1 (by omega) (by omega)
  obtain ⟨d, h3, d1, d2, d3⟩ := start_ok l2 (by omega)
  obtain ⟨r4, s4, h4, a4, b4, k4⟩ := next_ok2 (p := 6) hc hl k2 (by omega) (by omega)
  simp only [h1, h2, h3, h4, Option.bind_some]
  obtain ⟨n, rfl⟩ : ∃ n : Nat, r4 = n := ⟨r4.toNat, by omega⟩
  have k4' := k4.mono (m := k + 30) (by omega)
  obtain ⟨t, q1, q2, q3, q4⟩ := loop_rule (step := spec_l3Decoder_s1) (fun i u => u.2.2.2.2.2.2 = (n : Int) - i ∧ DecOk ⟨u.2.2.2.1, u.1, u.2.1, u.2.2.1⟩ ∧ (∀ x ∈ u.2.2.2.1, 0 ≤ x ∧ x ≤ 255) ∧ u.1 ≤ 3 + 2 * i ∧ SrcOk c ⟨u.2.2.2.2.1, u.2.2.2.2.2.1⟩ (k + 30 + i))
      (fun t => DecOk ⟨t.2.2.2.1, t.1, t.2.1, t.2.2.1⟩ ∧ (∀ x ∈ t.2.2.2.1, 0 ≤ x ∧ x ≤ 255) ∧ SrcOk c ⟨t.2.2.2.2.1, t.2.2.2.2.2⟩ (k + 40)) n (by
    rintro i ⟨at_, re, ra, da, co, ca, cnt⟩ hi ⟨g1, g2, g3, g4, g5⟩
    simp only at g1 g2 g3 g4 g5
    subst g1
    simp only [spec_l3Decoder_s1, decide_eq_true_eq]
    rcases Nat.lt_or_ge i n with hh | hh
    · left
      obtain ⟨p, s5, h5, m5, k5⟩ := pick_ok (l := [2, 3, 256, 1000]) hc hl g5 (by omega) (by simp)
      have hp : 1 ≤ p ∧ p ≤ 1024 := by simp at m5; omega
      obtain ⟨v1, v2, v3, v4⟩ := value_same g2 hp
      have hso : SlotOk ⟨valI ⟨da, at_, re, ra⟩ p, 1, p⟩ := ⟨hp, by simp only []; omega, v3, by simp only []; omega⟩
      obtain ⟨a, r, w, t1, t2, t3, t4, t5, t6⟩ := take_same g2 g3 hso (by simp only []; omega)
      simp only at t3 t4
      rw [if_pos (by omega), h5]
      simp only [Option.bind_some, v1, t1]
      rw [w64 (by omega)]
      refine ⟨hh, _, rfl, by simp only []; omega, ⟨g2.1, ?_, t5, t6⟩, g3, by simp only []; omega, ?_⟩
      · have := g2.2.1; simp only [] at this ⊢; omega
      · have : k + 30 + (i : Int) + 1 = k + 30 + ((i + 1 : Nat) : Int) := by omega
        rw [← this]; exact k5
    · right
      rw [if_neg (by omega)]
      exact ⟨_, rfl, g2, g3, g5.mono (by omega)⟩) (s := (d.At, d.Rest, d.Range, d.Data, s4.Code, s4.At, (n : Int))) ⟨by simp, d1, by rw [d2]; exact l2, by simp only []; omega, by simpa using k4'⟩
  obtain ⟨at_, re, ra, da, co, ca⟩ := t
  simp only at q2 q3 q4
  obtain ⟨r6, s6, h6, a6, b6, k6⟩ := next_ok2 (p := 25) hc hl q4 (by omega) (by omega)
  simp only [q1, h6, Option.bind_some, spec_l3Decoder_u3, spec_l3Decoder_u2, src_eta]
  have dl : da.length ≤ 601 := by have := q2.1; simp only [] at this; omega
  obtain ⟨x1, t1, e1, _, n1⟩ := pick_ok (l := [(-1), 10000, 10001, 9996, 9997]) hc hl k6 (by omega) (by simp)
  obtain ⟨x2, t2, e2, _, n2⟩ := pick_ok (l := [65535, 65536, 16777216, 16777217]) hc hl k6 (by omega) (by simp)
  obtain ⟨x3, t3, e3, _, n3⟩ := pick_ok (l := [(-1), 0, (IntKind.i64.wrap (ra - 1)), ra]) hc hl k6 (by omega) (by simp)
  obtain ⟨x4, t4, e4, m4, n4⟩ := pick_ok (l := [600, 601]) hc hl k6 (by omega) (by simp)
  have hx4 : 0 ≤ x4 ∧ x4 ≤ 601 := by simp at m4; omega
  obtain ⟨l5, t5, e5, f5, g5, n5⟩ := some_ok (n := x4) hc hl n4 (by omega) (by omega)
  simp only [e1, e2, e3, e4, e5, Option.bind_some]
  split
  · exact ⟨_, _, rfl, dl, q3, n1.mono (by omega)⟩
  · split
    · exact ⟨_, _, rfl, dl, q3, n2.mono (by omega)⟩
    · split
      · exact ⟨_, _, rfl, dl, q3, n3.mono (by omega)⟩
      · split
        · exact ⟨_, _, rfl, by simp only []; omega, g5, n5.mono (by omega)⟩
        · exact ⟨_, _, rfl, dl, q3, k6.mono (by omega)⟩
theorem chance_ok {c : List Int} {s : Sl1Src} {k p : Int} (hc : ∀ x ∈ c, 0 ≤ x ∧ x ≤ 255) (hl : (c.length : Int) ≤ 2000000) (hs : SrcOk c s k) (hk : k ≤ 1000000) (hp : 1 ≤ p ∧ p ≤ 100000000) :
    ∃ b s', spec_l1Chance s p = some (b, s') ∧ SrcOk c s' (k + 1) := by
  unfold spec_l1Chance
  obtain ⟨r, s', h, _, _, k'⟩ := next_ok2 hc hl hs hk hp
  rw [h]; exact ⟨_, _, rfl, k'⟩
theorem drawSlot_ok {c : List Int} {s : Sl1Src} {k : Int} (hc : ∀ x ∈ c, 0 ≤ x ∧ x ≤ 255) (hl : (c.length : Int) ≤ 2000000) (hs : SrcOk c s k) (hk : k ≤ 900000) :
    ∃ x s', spec_l3Slot s = some (x, s') ∧ SrcOk c s' (k + 6) := by
  unfold spec_l3Slot
  obtain ⟨r1, s1, h1, a1, b1, k1⟩ := next_ok2 (p := 300) hc hl hs (by omega) (by omega)
  obtain ⟨r2, s2, h2, m2, k2⟩ := pick_ok (l := [1, 2, 3, 256, 1000, 1024, (IntKind.i64.wrap (1 + r1))]) hc hl k1 (by omega) (by simp)
  have hr2 : 1 ≤ r2 ∧ r2 ≤ 1024 := by rw [w64 (by omega)] at m2; simp at m2; omega
  obtain ⟨r3, s3, h3, a3, b3, k3⟩ := next_ok2 (p := r2) hc hl k2 (by omega) (by omega)
  obtain ⟨b, s4, h4, k4⟩ := chance_ok (p := 2) hc hl k3 (by omega) (by omega)
  simp only [h1, h2, h3, h4, Option.bind_some, spec_l3Slot_u1, spec_l3Slot_u2]
  rw [w64 (n := 1 + r3) (by omega)]
  have hy : ∃ y : Int, (if b = true then 1 else 1 + r3) = y ∧ 1 ≤ y ∧ y ≤ r2 := ⟨_, rfl, by split <;> omega, by split <;> omega⟩
  obtain ⟨y, hy, y1, y2⟩ := hy
  rw [hy, w64 (n := r2 - y) (by omega), w64 (n := r2 - y + 1) (by omega)]
  obtain ⟨r5, s5, h5, a5, b5, k5⟩ := next_ok2 (p := r2 - y + 1) hc hl k4 (by omega) (by omega)
  obtain ⟨b6, s6, h6, k6⟩ := chance_ok (p := 4) hc hl k5 (by omega) (by omega)
  simp only [h5, h6, Option.bind_some]
  exact ⟨_, _, rfl, k6.mono (by omega)⟩
theorem drawBentSlot_ok {c : List Int} {s : Sl1Src} {k : Int} (hc : ∀ x ∈ c, 0 ≤ x ∧ x ≤ 255) (hl : (c.length : Int) ≤ 2000000) (hs : SrcOk c s k) (hk : k ≤ 900000) :
    ∃ x s', spec_l3BentSlot s = some (x, s') ∧ SrcOk c s' (k + 8) := by
  unfold spec_l3BentSlot
  obtain ⟨x, s1, h1, k1⟩ := drawSlot_ok hc hl hs hk
  obtain ⟨r2, s2, h2, _, _, k2⟩ := next_ok2 (p := 30) hc hl k1 (by omega) (by omega)
  simp only [h1, h2, Option.bind_some, spec_l3BentSlot_u2, spec_l3BentSlot_u1, src_eta]
  obtain ⟨x1, t1, e1, _, n1⟩ := pick_ok (l := [0, 1025, (-1)]) hc hl k2 (by omega) (by simp)
  obtain ⟨x2, t2, e2, _, n2⟩ := pick_ok (l := [0, (IntKind.i64.wrap (x.Total + 1)), 9223372036854775807]) hc hl k2 (by omega) (by simp)
  obtain ⟨x3, t3, e3, _, n3⟩ := pick_ok (l := [(-1), x.Total, 9223372036854775807]) hc hl k2 (by omega) (by simp)
  simp only [e1, e2, e3, Option.bind_some]
  split
  · exact ⟨_, _, rfl, n1.mono (by omega)⟩
  · split
    · exact ⟨_, _, rfl, n2.mono (by omega)⟩
    · split
      · exact ⟨_, _, rfl, n3.mono (by omega)⟩
      · exact ⟨_, _, rfl, k2.mono (by omega)⟩
theorem drawTakeSlot_ok {c : List Int} (hc : ∀ x ∈ c, 0 ≤ x ∧ x ≤ 255) (hl : (c.length : Int) ≤ 2000000) : ∃ d x, spec_DrawTakeSlot c = some (d, x) ∧ d.Data.length ≤ 601 ∧ ∀ x ∈ d.Data, 0 ≤ x ∧ x ≤ 255 := by
  unfold spec_DrawTakeSlot
  obtain ⟨d, s1, h1, d1, d2, k1⟩ := drawDec_ok hc hl source_ok (by omega)
  obtain ⟨x, s2, h2, k2⟩ := drawBentSlot_ok hc hl k1 (by omega)
  obtain ⟨b, s3, h3, k3⟩ := chance_ok (p := 3) hc hl k2 (by omega) (by omega)
  have eD : ∀ t : SDecoder, SDecoder.mk t.Data t.At t.Rest t.Range = t := fun _ => rfl
  have eR : ∀ (t : SSlot), SSlot.mk t.Low t.Size t.Total = t := fun _ => rfl
  simp only [h1, h2, Option.bind_some, spec_DrawTakeSlot_u1, src_eta, h3, eD, eR]
  by_cases c1 : b = true
  · simp only [c1, if_true, Option.bind_some]
    exact ⟨_, _, rfl, d1, d2⟩
  · simp only [c1, Bool.false_eq_true, if_false]
    by_cases c2 : spec_DecoderFault d = 0
    · by_cases c3 : spec_SlotFault x = 0
      · simp only [c2, c3, bne_self_eq_false, Bool.false_eq_true, if_false, Option.bind_some]
        have hd := (decFault_all d).2.1 c2
        have hs := (slotFault_all x).2.1 c3
        obtain ⟨v1, v2, v3, v4⟩ := value_same hd hs.1
        have ht := hs.1
        obtain ⟨r5, s5, h5, a5, b5, k5⟩ := next_ok2 (p := valI d x.Total + 1) hc hl k3 (by omega) (by omega)
        obtain ⟨r6, s6, h6, a6, b6, k6⟩ := next_ok2 (p := x.Total - valI d x.Total) hc hl k5 (by omega) (by omega)
        rw [v1]
        simp only [Option.bind_some]
        rw [w64 (by omega), h5]
        simp only [Option.bind_some, spec_DrawTakeSlot_u3, src_eta]
        rw [w64 (n := x.Total - valI d x.Total) (by omega), h6]
        exact ⟨_, _, rfl, d1, d2⟩
      · have : (spec_SlotFault x != 0) = true := by simp [c3]
        simp only [c2, this, bne_self_eq_false, Bool.false_eq_true, if_false, Option.bind_some, if_true]
        exact ⟨_, _, rfl, d1, d2⟩
    · have : (spec_DecoderFault d != 0) = true := by simp [c2]
      simp only [this, if_true, Option.bind_some]
      exact ⟨_, _, rfl, d1, d2⟩
--REST0
--REST0
theorem same_self {d : SDecoder} : impl_SameDecoders d d = some true ∧ spec_SameDecoders d d = some true := by
  unfold impl_SameDecoders spec_SameDecoders
  simp [impl_SameDecoders_u1, spec_SameDecoders_u1, bytes_Equal, bytesI_eq]
theorem pure (c : List Int) (hc : (c.length : Int) ≤ maxI ∧ ∀ x ∈ c, WfI .u8 x) : laws_FnDecoders c = some true := by
  unfold laws_FnDecoders
  by_cases hb : laws_lwBig c = true
  · rw [if_pos hb]
  · rw [if_neg hb]
    have hl : (c.length : Int) ≤ 1048576 := by simp [laws_lwBig] at hb; omega
    have hc' : ∀ x ∈ c, 0 ≤ x ∧ x ≤ 255 := fun x hx => wfU8.1 (hc.2 x hx)
    obtain ⟨d, x, h1, d1, d2⟩ := drawTakeSlot_ok hc' (by omega)
    obtain ⟨w, h2, h3, w1, w2, w3⟩ := takeSlot_same (s := x) d2
    obtain ⟨f1, f2⟩ := decFault_all d
    obtain ⟨g1, g2⟩ := slotFault_all x
    have eD : ∀ t : SDecoder, SDecoder.mk t.Data t.At t.Rest t.Range = t := fun _ => rfl
    have eR : ∀ (t : SSlot), SSlot.mk t.Low t.Size t.Total = t := fun _ => rfl
    simp only [h1, h3, Option.bind_some, laws_FnDecoders_u1, eD, eR, h2, f1, g1, bne_self_eq_false, Bool.false_eq_true, if_false]
    by_cases hcode : w.Code = 0
    · rw [if_neg (by simp [hcode])]
      have hd := w3 hcode
      obtain ⟨p1, p2⟩ := decFault_all w.Decoder
      have p3 := p2.2 hd
      rw [p3] at p1
      obtain ⟨v1, v2, v3, v4⟩ := value_same hd (t := 7) (by omega)
      obtain ⟨s1, s2⟩ := same_self (d := w.Decoder)
      have nv : impl_NextValue w.Decoder 7 = some ⟨0, valI w.Decoder 7⟩ := by
        unfold impl_NextValue
        rw [p1]
        simp only [Option.bind_some]
        rw [impl_first_eq (by simp [maxI])]
        simp [firstL, impl_codeIf_eq, impl_inRange_eq, v2]
      simp only [nv, Option.bind_some, laws_FnDecoders_u2, eD, eR, p1, h2, s1, s2, beq_self_eq_true, if_true, ge_iff_le, v3, v4, decide_true]
    · rw [if_pos (by simp [hcode])]
end FnDecoders
end Go.Proofs.Ytjgdnpockaijeaa.Wm
