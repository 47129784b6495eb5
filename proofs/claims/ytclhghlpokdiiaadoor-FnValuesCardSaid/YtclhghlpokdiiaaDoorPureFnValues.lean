/- What FnValues comes to on plain values: true. -/
import Derived.Test.YtclhghlpokdiiaaDoorFnBFnValues
set_option linter.unusedSimpArgs false
set_option linter.unusedVariables false
set_option maxRecDepth 100000
namespace Go.Proofs.YtclhghlpokdiiaaDoor.Wm
open Go
namespace FnValues
theorem spec_l1In_eq {a b c : Int} : spec_l1In a b c = decide (b ≤ a ∧ a ≤ c) := by
  simp only [spec_l1In, spec_l1In_u1, decide_eq_true_eq]
  by_cases h1 : b ≤ a <;> by_cases h2 : a ≤ c <;> simp [h1, h2]
theorem impl_inRange_eq {a b c : Int} : impl_inRange a b c = decide (b ≤ a ∧ a ≤ c) := by
  simp only [impl_inRange, impl_inRange_u1, decide_eq_true_eq]
  by_cases h1 : b ≤ a <;> by_cases h2 : a ≤ c <;> simp [h1, h2]
def firstL : List Int → Int
  | [] => 0
  | x :: l => if x ≠ 0 then x else firstL l
theorem firstL_skip : ∀ {i : Nat} {l : List Int}, (∀ j x, j < i → l[j]? = some x → x = 0) → firstL l = firstL (l.drop i)
  | 0, l, h => by simp
  | i + 1, [], h => by simp
  | i + 1, x :: l, h => by
    have := h 0 x (by omega) rfl
    subst this
    simp only [firstL, ne_eq, not_true, if_false, List.drop_succ_cons]
    exact firstL_skip fun j x hj hx => h (j + 1) x (by omega) (by simpa using hx)
theorem impl_first_eq {l : List Int} (hl : (l.length : Int) ≤ maxI) : impl_first l = some (firstL l) := by
  unfold maxI at hl
  unfold impl_first
  obtain ⟨t, h1, h2⟩ := loop_rule (step := impl_first_s1 l (l.length : Int)) (fun i s => s = (i : Int) ∧ ∀ j x, j < i → l[j]? = some x → x = 0)
      (fun t => (t = .inl () ∧ firstL l = 0) ∨ (t = .inr (firstL l))) l.length (by
    rintro i s hi ⟨rfl, hj⟩
    simp only [impl_first_s1, decide_eq_true_eq]
    rcases Nat.lt_or_ge i l.length with h | h
    · obtain ⟨x, hx, hm⟩ := get_lt h
      rw [if_pos (by omega), getI_nat, hx, w64 (by omega)]
      simp only [Option.bind_some, bne_iff_ne, ne_eq]
      by_cases hp : x = 0
      · left
        rw [if_neg (by simp [hp])]
        refine ⟨h, _, rfl, by simp, fun j y hj' hy => ?_⟩
        rcases Nat.lt_or_ge j i with hji | hji
        · exact hj j y hji hy
        · obtain rfl : j = i := by omega
          rw [hx] at hy; obtain rfl := Option.some.inj hy; exact hp
      · right
        rw [if_pos hp]
        refine ⟨_, rfl, .inr ?_⟩
        rw [firstL_skip hj, List.drop_eq_getElem_cons h, firstL]
        have : l[i] = x := by rw [List.getElem?_eq_getElem h] at hx; exact Option.some.inj hx
        rw [this, if_pos hp]
    · right
      rw [if_neg (by omega)]
      refine ⟨_, rfl, .inl ⟨rfl, ?_⟩⟩
      rw [firstL_skip hj, List.drop_eq_nil_of_le h]; rfl) (s := 0) ⟨rfl, fun j x hj => by omega⟩
  rw [h1]
  rcases h2 with ⟨rfl, h⟩ | rfl
  · simp [h]
  · simp
theorem impl_codeIf_eq {b : Bool} {c : Int} : impl_codeIf b c = if b = true then c else 0 := rfl
theorem loop_same {ς τ : Type} {step1 step2 : ς → Option (ς ⊕ τ)} (I : Nat → ς → Prop) (Q : τ → Prop) (n : Nat)
    (h : ∀ i s, i ≤ n → I i s → step1 s = step2 s ∧ ((i < n ∧ ∃ s', step2 s = some (.inl s') ∧ I (i + 1) s') ∨ ∃ t, step2 s = some (.inr t) ∧ Q t)) {s : ς} (h0 : I 0 s) : ∃ t, loopO step1 s = some t ∧ loopO step2 s = some t ∧ Q t := by
  have key : ∀ m i s, n - i = m → i ≤ n → I i s → ∃ t, loopO step1 s = some t ∧ loopO step2 s = some t ∧ Q t := by
    intro m
    induction m with
    | zero =>
      intro i s hm hi hI
      obtain ⟨e, h | ⟨t, h1, h2⟩⟩ := h i s hi hI
      · omega
      · exact ⟨t, by rw [loopO_eq, e, h1], by rw [loopO_eq, h1], h2⟩
    | succ m ih =>
      intro i s hm hi hI
      obtain ⟨e, ⟨h1, s', h2, h3⟩ | ⟨t, h1, h2⟩⟩ := h i s hi hI
      · obtain ⟨t, k1, k2, k3⟩ := ih (i + 1) s' (by omega) (by omega) h3
        exact ⟨t, by rw [loopO_eq, e, h2]; exact k1, by rw [loopO_eq, h2]; exact k2, k3⟩
      · exact ⟨t, by rw [loopO_eq, e, h1], by rw [loopO_eq, h1], h2⟩
  exact key (n - 0) 0 s rfl (Nat.zero_le _) h0
theorem and_mask {w : Nat} {a : Int} {m : Nat} (h0 : 0 ≤ a) (h1 : a < 2 ^ w) (hm : m ≤ w) (hw : 0 < w) : (BitVec.ofInt w a &&& BitVec.ofInt w (2 ^ m - 1)).toNat = a.toNat % 2 ^ m := by
  obtain ⟨n, rfl⟩ : ∃ n : Nat, a = n := ⟨a.toNat, by omega⟩
  have hn : n < 2 ^ w := by exact_mod_cast h1
  have hm2 : (2 : Nat) ^ m - 1 < 2 ^ w := by
    have := Nat.pow_le_pow_right (n := 2) (by omega) hm
    have := Nat.two_pow_pos m
    omega
  have e : ((2 : Int) ^ m - 1) = ((2 ^ m - 1 : Nat) : Int) := by
    have := Nat.two_pow_pos m
    rw [Int.natCast_sub (by omega)]; simp
  rw [e, BitVec.toNat_and]
  simp only [BitVec.ofInt_natCast, BitVec.toNat_ofNat, Int.toNat_natCast]
  rw [Nat.mod_eq_of_lt hn, Nat.mod_eq_of_lt hm2, Nat.and_two_pow_sub_one_eq_mod]
theorem and_one {w : Nat} {a : Int} (h0 : 0 ≤ a) (h1 : a < 2 ^ w) (hw : 0 < w) : (BitVec.ofInt w a &&& BitVec.ofInt w 1).toNat = a.toNat % 2 := by
  have := and_mask (m := 1) h0 h1 (by omega) hw
  simpa using this
theorem xor_lt {a b : Int} (h0 : 0 ≤ a ∧ a < 65536) (h1 : 0 ≤ b ∧ b < 65536) : (BitVec.ofInt IntKind.i64.bits a ^^^ BitVec.ofInt IntKind.i64.bits b).toNat < 65536 := by
  obtain ⟨n, rfl⟩ : ∃ n : Nat, a = n := ⟨a.toNat, by omega⟩
  obtain ⟨m, rfl⟩ : ∃ m : Nat, b = m := ⟨b.toNat, by omega⟩
  rw [BitVec.toNat_xor]
  simp only [BitVec.ofInt_natCast, BitVec.toNat_ofNat, IntKind.bits]
  rw [Nat.mod_eq_of_lt (by omega), Nat.mod_eq_of_lt (by omega)]
  exact Nat.xor_lt_two_pow (n := 16) (by omega) (by omega)
theorem fdiv_pow {a : Int} {k : Nat} (h : 0 ≤ a) : a.fdiv (2 ^ k) = ((a.toNat / 2 ^ k : Nat) : Int) := by
  obtain ⟨n, rfl⟩ : ∃ n : Nat, a = n := ⟨a.toNat, by omega⟩
  rw [Int.fdiv_eq_ediv_of_nonneg _ (by exact_mod_cast Nat.zero_le _)]
  simp only [Int.toNat_natCast]
  exact_mod_cast rfl
def DecOk (d : SDecoder) : Prop := d.Data.length ≤ 600 ∧ (0 ≤ d.At ∧ d.At ≤ 10000) ∧ (65536 ≤ d.Range ∧ d.Range ≤ 16777216) ∧ (0 ≤ d.Rest ∧ d.Rest ≤ d.Range - 1)
def SlotOk (s : SSlot) : Prop := (1 ≤ s.Total ∧ s.Total ≤ 1024) ∧ (1 ≤ s.Size ∧ s.Size ≤ s.Total) ∧ 0 ≤ s.Low ∧ s.Low ≤ s.Total - s.Size
theorem unit_ge {r t : Int} (hr : 65536 ≤ r) (ht : 1 ≤ t ∧ t ≤ 1024) : 64 ≤ r / t ∧ r / t ≤ r := ⟨Int.le_ediv_of_mul_le (by omega) (by omega), Int.ediv_le_self _ (by omega)⟩
def valI (d : SDecoder) (t : Int) : Int := if d.Rest / (d.Range / t) < t - 1 then d.Rest / (d.Range / t) else t - 1
theorem value_same {d : SDecoder} (h : DecOk d) {t : Int} (ht : 1 ≤ t ∧ t ≤ 1024) : spec_l3Value d t = some (valI d t) ∧ impl_Decoder_value d t = some (valI d t) ∧ 0 ≤ valI d t ∧ valI d t < t := by
  obtain ⟨_, _, h3, h4⟩ := h
  obtain ⟨u1, u2⟩ := unit_ge h3.1 ht
  unfold spec_l3Value impl_Decoder_value valI
  rw [Int.tdiv_eq_ediv_of_nonneg (by omega)]
  generalize d.Range / t = u at *
  have n1 : ¬ t = 0 := by omega
  have n2 : ¬ u = 0 := by omega
  rw [w64 (n := u) (by omega)]
  simp only [n1, n2, if_false]
  rw [Int.tdiv_eq_ediv_of_nonneg h4.1]
  have e1 : 0 ≤ d.Rest / u := Int.ediv_nonneg h4.1 (by omega)
  have e2 : d.Rest / u ≤ d.Rest := Int.ediv_le_self _ h4.1
  generalize d.Rest / u = v at *
  rw [w64 (n := v) (by omega), w64 (n := t - 1) (by omega)]
  simp only [spec_l1Min, mnI, decide_eq_true_eq]
  by_cases c : v < t - 1
  · simp only [c, if_true]; rw [if_neg (by omega)]; exact ⟨trivial, rfl, by omega, by omega⟩
  · simp only [c, if_false]
    refine ⟨trivial, ?_, by omega, by omega⟩
    split
    · rfl
    · congr 1; omega
def widthI (r : Int) (s : SSlot) : Int := if s.Low + s.Size = s.Total then r - r / s.Total * s.Low else r / s.Total * s.Size
theorem unit_mul {r : Int} {s : SSlot} (hr : 65536 ≤ r) (hs : SlotOk s) : r / s.Total * s.Low + r / s.Total * s.Size = r / s.Total * (s.Low + s.Size) ∧ r / s.Total * (s.Low + s.Size) ≤ r ∧ 0 ≤ r / s.Total * s.Low ∧ 64 ≤ r / s.Total * s.Size := by
  obtain ⟨h1, h2, h3, h4⟩ := hs
  obtain ⟨u1, u2⟩ := unit_ge hr h1
  have e := Int.ediv_mul_le r (show s.Total ≠ 0 by omega)
  have a := Int.mul_le_mul_of_nonneg_left (show s.Low + s.Size ≤ s.Total by omega) (show 0 ≤ r / s.Total by omega)
  have b := Int.mul_nonneg (show 0 ≤ r / s.Total by omega) h3
  have c := Int.mul_le_mul u1 h2.1 (by omega) (show 0 ≤ r / s.Total by omega)
  exact ⟨(Int.mul_add _ _ _).symm, by omega, b, by omega⟩
theorem narrow_same {r : Int} {s : SSlot} (hr : 65536 ≤ r ∧ r ≤ 16777216) (hs : SlotOk s) : spec_l3Narrow r s = some (widthI r s) ∧ impl_narrowed r s = some (r / s.Total * s.Low, widthI r s) ∧ IntKind.i64.wrap ((IntKind.i64.wrap (r.tdiv s.Total)) * s.Low) = r / s.Total * s.Low ∧ 64 ≤ widthI r s ∧ widthI r s ≤ 16777216 := by
  obtain ⟨m1, m2, m3, m4⟩ := unit_mul hr.1 hs
  obtain ⟨h1, h2, h3, h4⟩ := hs
  obtain ⟨u1, u2⟩ := unit_ge hr.1 h1
  unfold spec_l3Narrow impl_narrowed widthI
  rw [Int.tdiv_eq_ediv_of_nonneg (by omega), w64 (n := r / s.Total) (by omega), w64 (n := r / s.Total * s.Low) (by omega), w64 (n := r / s.Total * s.Size) (by omega), w64 (n := r - r / s.Total * s.Low) (by omega), w64 (n := s.Low + s.Size) (by omega)]
  have n1 : ¬ s.Total = 0 := by omega
  simp only [beq_iff_eq, n1, if_false]
  by_cases c : s.Low + s.Size = s.Total
  · simp only [c, if_true, true_and]
    rw [c] at m1 m2
    omega
  · simp only [c, if_false, true_and]
    omega
def byteAt (l : List Int) (a : Int) : Int := (l[a.toNat]?).getD 0
theorem byteAt_ok {l : List Int} {a : Int} (hb : ∀ x ∈ l, 0 ≤ x ∧ x ≤ 255) : 0 ≤ byteAt l a ∧ byteAt l a ≤ 255 := by
  unfold byteAt
  rcases Nat.lt_or_ge a.toNat l.length with h | h
  · obtain ⟨x, hx, hm⟩ := get_lt h
    rw [hx]; exact hb x hm
  · rw [List.getElem?_eq_none h]; simp
theorem byte_spec {l : List Int} {a : Int} (hb : ∀ x ∈ l, 0 ≤ x ∧ x ≤ 255) (h0 : 0 ≤ a) : spec_l3Byte l a = some (byteAt l a) := by
  unfold spec_l3Byte byteAt
  simp only [decide_eq_true_eq]
  obtain ⟨n, rfl⟩ : ∃ n : Nat, a = n := ⟨a.toNat, by omega⟩
  rcases Nat.lt_or_ge n l.length with h | h
  · obtain ⟨x, hx, hm⟩ := get_lt h
    have := hb x hm
    rw [if_pos (by omega), getI_nat, Int.toNat_natCast, hx]
    simp only [Option.bind_some, Option.getD_some]
    rw [w64 (by omega)]
  · rw [if_neg (by omega), Int.toNat_natCast, List.getElem?_eq_none h]; rfl
theorem next_impl {d : SDecoder} (hb : ∀ x ∈ d.Data, 0 ≤ x ∧ x ≤ 255) (h0 : 0 ≤ d.At ∧ d.At ≤ 1000000) : impl_Decoder_next_o d = some (byteAt d.Data d.At, d.Data, d.At + 1) := by
  unfold impl_Decoder_next_o byteAt
  simp only [decide_eq_true_eq]
  have e1 : IntKind.i64.wrap (d.At + 1) = d.At + 1 := w64 (by omega)
  have e2 : IntKind.i64.wrap (d.At + 1 - 1) = d.At := by rw [w64 (by omega)]; omega
  rw [e1, e2]
  generalize d.At = a at *
  obtain ⟨n, rfl⟩ : ∃ n : Nat, a = n := ⟨a.toNat, by omega⟩
  rcases Nat.lt_or_ge n d.Data.length with h | h
  · obtain ⟨x, hx, hm⟩ := get_lt h
    have := hb x hm
    rw [if_neg (by omega), getI_nat, Int.toNat_natCast, hx]
    simp only [Option.bind_some, Option.getD_some]
    rw [w64 (by omega)]
  · rw [if_pos (by omega), Int.toNat_natCast, List.getElem?_eq_none h]; rfl
theorem turn_same {l : List Int} (hb : ∀ x ∈ l, 0 ≤ x ∧ x ≤ 255) : ∀ (m : Nat) (a r w : Int), 65536 ≤ w * 256 ^ m → 0 < w → w ≤ 16777216 → 0 ≤ r → r ≤ w - 1 → 0 ≤ a → a + m ≤ 100000 →
    ∃ a' r' w', loopO (spec_l3Take_o_s1 l) (a, r, w) = some (a', r', w') ∧ loopO impl_Decoder_take_o_s2 (l, a, r, w) = some (l, a', r', w') ∧ a ≤ a' ∧ a' ≤ a + m ∧ (65536 ≤ w' ∧ w' ≤ 16777216) ∧ 0 ≤ r' ∧ r' ≤ w' - 1 := by
  intro m
  induction m with
  | zero =>
    intro a r w h1 h2 h3 h4 h5 h6 h7
    have h1' : 65536 ≤ w := by simpa using h1
    refine ⟨a, r, w, ?_, ?_, by omega, by omega, by omega, by omega⟩
    · rw [loopO_eq, spec_l3Take_o_s1]; simp only [decide_eq_true_eq]; rw [if_neg (by omega)]
    · rw [loopO_eq, impl_Decoder_take_o_s2]; simp only [decide_eq_true_eq]; rw [if_neg (by omega)]
  | succ m ih =>
    intro a r w h1 h2 h3 h4 h5 h6 h7
    by_cases hw : w < 65536
    · obtain ⟨b0, b1⟩ := byteAt_ok (l := l) (a := a) hb
      obtain ⟨a', r', w', q1, q2, q3, q4, q5, q6⟩ := ih (a + 1) (r * 256 + byteAt l a) (w * 256) (by rw [Int.pow_succ, Int.mul_comm (256 ^ m) 256, ← Int.mul_assoc] at h1; exact h1) (by omega) (by omega) (by omega) (by omega) (by omega) (by omega)
      refine ⟨a', r', w', ?_, ?_, by omega, by omega, q5, q6⟩
      · rw [loopO_eq, spec_l3Take_o_s1]
        simp only [decide_eq_true_eq]
        rw [if_pos hw, byte_spec hb h6, w64 (n := a + 1) (by omega), w64 (n := r * 256) (by omega), w64 (n := w * 256) (by omega)]
        simp only [Option.bind_some]
        rw [w64 (by omega)]
        exact q1
      · rw [loopO_eq, impl_Decoder_take_o_s2]
        simp only [decide_eq_true_eq, impl_Decoder_take_o_u1]
        rw [if_pos hw, next_impl (d := ⟨l, a, r, w⟩) hb (by simp only []; omega), w64 (n := r * 256) (by omega), w64 (n := w * 256) (by omega)]
        simp only [Option.bind_some]
        rw [w64 (by omega)]
        exact q2
    · refine ⟨a, r, w, ?_, ?_, by omega, by omega, by omega, by omega⟩
      · rw [loopO_eq, spec_l3Take_o_s1]; simp only [decide_eq_true_eq]; rw [if_neg (by omega)]
      · rw [loopO_eq, impl_Decoder_take_o_s2]; simp only [decide_eq_true_eq]; rw [if_neg (by omega)]
theorem take_same {d : SDecoder} {s : SSlot} (hd : DecOk d) (hb : ∀ x ∈ d.Data, 0 ≤ x ∧ x ≤ 255) (hs : SlotOk s) (hv : s.Low ≤ valI d s.Total ∧ valI d s.Total ≤ s.Low + s.Size - 1) :
    ∃ a r w, spec_l3Take_o d s = some (d.Data, a, r, w) ∧ impl_Decoder_take_o d s = some (d.Data, a, r, w) ∧ d.At ≤ a ∧ a ≤ d.At + 2 ∧ (65536 ≤ w ∧ w ≤ 16777216) ∧ 0 ≤ r ∧ r ≤ w - 1 := by
  obtain ⟨d1, d2, d3, d4⟩ := hd
  obtain ⟨n1, n2, n3, n4, n5⟩ := narrow_same d3 hs
  obtain ⟨m1, m2, m3, m4⟩ := unit_mul d3.1 hs
  obtain ⟨h1, h2, h3, h4⟩ := hs
  obtain ⟨u1, u2⟩ := unit_ge d3.1 h1
  have lo : d.Range / s.Total * s.Low ≤ d.Rest := by
    have q : s.Low ≤ d.Rest / (d.Range / s.Total) := by unfold valI at hv; split at hv <;> omega
    have := Int.mul_le_of_le_ediv (by omega) q
    rw [Int.mul_comm]; exact this
  have hi : d.Rest - d.Range / s.Total * s.Low ≤ widthI d.Range s - 1 := by
    unfold widthI
    split
    · omega
    · rename_i c
      have q : d.Rest / (d.Range / s.Total) < s.Low + s.Size := by unfold valI at hv; split at hv <;> omega
      have := Int.lt_mul_of_ediv_lt (by omega) q
      rw [Int.mul_comm] at this
      omega
  obtain ⟨a, r, w, q1, q2, q3, q4, q5, q6⟩ := turn_same hb 2 d.At (d.Rest - d.Range / s.Total * s.Low) (widthI d.Range s) (by simp only [Int.reducePow]; omega) (by omega) n5 (by omega) hi d2.1 (by omega)
  have hw : IntKind.i64.wrap (d.Rest - d.Range / s.Total * s.Low) = d.Rest - d.Range / s.Total * s.Low := w64 (by omega)
  refine ⟨a, r, w, ?_, ?_, q3, by omega, q5, q6⟩
  · unfold spec_l3Take_o
    rw [if_neg (by omega), n1, n3, hw]
    simp only [Option.bind_some, q1]
  · unfold impl_Decoder_take_o
    rw [n2]
    simp only [Option.bind_some]
    rw [hw, q2]; rfl
theorem start_same {l : List Int} (hb : ∀ x ∈ l, 0 ≤ x ∧ x ≤ 255) (hl : l.length ≤ 600) : impl_start l = spec_l3Start l := by
  unfold impl_start spec_l3Start
  have cp : spec_l1Copy l = some l := by unfold spec_l1Copy; rw [if_pos (okApp_of (by omega))]
  have cl : slices_Clone_byte l = some l := by unfold slices_Clone_byte; rw [if_pos (okApp_of (by omega))]
  obtain ⟨a0, a1⟩ := byteAt_ok (l := l) (a := 0) hb
  obtain ⟨b0, b1⟩ := byteAt_ok (l := l) (a := 1) hb
  obtain ⟨c0, c1⟩ := byteAt_ok (l := l) (a := 2) hb
  have st : ∀ (a r k : Int), 0 ≤ a → a ≤ 10 → 0 ≤ r → r ≤ 65536 → 0 ≤ k → k < 3 → impl_start_s3 (a, r, l, k) = some (.inl (a + 1, r * 256 + byteAt l a, l, k + 1)) := fun a r k h1 h2 h3 h4 h5 h6 => by
    obtain ⟨q0, q1⟩ := byteAt_ok (l := l) (a := a) hb
    simp only [impl_start_s3, decide_eq_true_eq]
    rw [if_pos h6]
    unfold impl_start_u2
    rw [next_impl (d := ⟨l, a, r, 16777216⟩) hb (by simp only []; omega)]
    simp only [Option.bind_some]
    rw [w64 (n := r * 256) (by omega), w64 (n := r * 256 + byteAt l a) (by omega), w64 (by omega)]
  have fin : ∀ (a r : Int), impl_start_s3 (a, r, l, 3) = some (.inr (a, r, l)) := fun a r => by
    simp only [impl_start_s3]; rw [if_neg (by decide)]
  simp only [byte_spec hb (show (0 : Int) ≤ 0 by omega), byte_spec hb (show (0 : Int) ≤ 1 by omega), byte_spec hb (show (0 : Int) ≤ 2 by omega), cp, cl, Option.bind_some]
  rw [loopO_eq, st 0 0 0 (by omega) (by omega) (by omega) (by omega) (by omega) (by omega)]
  simp only []
  rw [loopO_eq, st _ _ _ (by omega) (by omega) (by omega) (by omega) (by omega) (by omega)]
  simp only []
  rw [loopO_eq, st _ _ _ (by omega) (by omega) (by simp only [Int.zero_add]; omega) (by simp only [Int.zero_add]; omega) (by omega) (by omega)]
  simp only [Int.zero_add, Int.reduceAdd, Int.zero_mul]
  rw [loopO_eq, fin]
  simp only [Option.bind_some]
  rw [w64 (n := byteAt l 0 * 65536) (by omega), w64 (n := byteAt l 1 * 256) (by omega), w64 (n := byteAt l 0 * 65536 + byteAt l 1 * 256) (by omega), w64 (by omega)]
  congr 2
  omega
def shareI (c : Int) : Int := if c = 0 then 96 else if c = 1 then 48 else if c = 2 then 40 else if c = 3 then 24 else if c = 4 then 16 else if c = 5 then 8 else 2
theorem share_spec {c : Int} : spec_l4Share c = shareI c := by
  unfold spec_l4Share shareI spec_l4Share_u1
  simp only [beq_iff_eq]
  by_cases h0 : c = 0
  · simp [h0]
  · by_cases h1 : c = 1
    · simp [h1]
    · by_cases h2 : c = 2
      · simp [h2]
      · by_cases h3 : c = 3
        · simp [h3]
        · by_cases h4 : c = 4
          · simp [h4]
          · by_cases h5 : c = 5
            · simp [h5]
            · simp [h0, h1, h2, h3, h4, h5]
theorem size_impl {c : Int} (h : 0 ≤ c) : impl_classSize c = some (shareI c) := by
  unfold impl_classSize shareI
  simp only [decide_eq_true_eq]
  by_cases h6 : c < 6
  · rw [if_pos h6, if_pos ⟨h, h6⟩]
    obtain ⟨n, rfl⟩ : ∃ n : Nat, c = n := ⟨c.toNat, by omega⟩
    have : n = 0 ∨ n = 1 ∨ n = 2 ∨ n = 3 ∨ n = 4 ∨ n = 5 := by omega
    rcases this with rfl | rfl | rfl | rfl | rfl | rfl <;> rfl
  · rw [if_neg h6]
    have : ¬ c = 0 ∧ ¬ c = 1 ∧ ¬ c = 2 ∧ ¬ c = 3 ∧ ¬ c = 4 ∧ ¬ c = 5 := by omega
    simp [this]
def lowI : Nat → Int
  | 0 => 0
  | n + 1 => lowI n + shareI n
theorem class_same {n : Nat} (h : n ≤ 20) : spec_l4Class n = some ⟨lowI n, shareI n, 256⟩ ∧ impl_classSlot n = some ⟨lowI n, shareI n, 256⟩ := by
  unfold spec_l4Class impl_classSlot
  have bd : ∀ i : Nat, i ≤ 20 → 0 ≤ lowI i ∧ lowI i + shareI i ≤ 1000 := by
    intro i hi
    have : ∀ i : Fin 21, 0 ≤ lowI i.val ∧ lowI i.val + shareI i.val ≤ 1000 := by decide +kernel
    exact this ⟨i, by omega⟩
  rw [size_impl (by omega), share_spec]
  simp only [Option.bind_some]
  obtain ⟨t, h1, h2, h3⟩ := loop_same (step1 := impl_classSlot_s1 (shareI n) (n : Int)) (step2 := spec_l4Class_s1 (n : Int)) (fun i s => s = (lowI i, (i : Int))) (fun t => t = lowI n) n (by
    rintro i s hi rfl
    simp only [impl_classSlot_s1, spec_l4Class_s1, decide_eq_true_eq, share_spec]
    have hb := bd i (by omega)
    rcases Nat.lt_or_ge i n with hh | hh
    · have hs : 0 ≤ shareI (i : Int) := by unfold shareI; repeat' split
                                           all_goals omega
      rw [if_pos (by omega), if_pos (by omega), size_impl (by omega), w64 (n := (i : Int) + 1) (by omega)]
      simp only [Option.bind_some]
      rw [w64 (n := lowI i + shareI i) (by omega)]
      exact ⟨by trivial, .inl ⟨hh, _, rfl, by simp [lowI]⟩⟩
    · obtain rfl : i = n := by omega
      rw [if_neg (by omega), if_neg (by omega)]
      exact ⟨by trivial, .inr ⟨_, rfl, rfl⟩⟩) (s := (0, 0)) rfl
  rw [h1, h2, h3]
  exact ⟨rfl, rfl⟩
theorem low_ok {n : Nat} (h : n ≤ 17) : SlotOk ⟨lowI n, shareI n, 256⟩ := by
  have : ∀ i : Fin 18, 1 ≤ shareI i.val ∧ 0 ≤ lowI i.val ∧ lowI i.val + shareI i.val ≤ 256 := by decide +kernel
  have : 1 ≤ shareI n ∧ 0 ≤ lowI n ∧ lowI n + shareI n ≤ 256 := this ⟨n, by omega⟩
  exact ⟨by simp only []; omega, by simp only []; omega, by simp only []; omega, by simp only []; omega⟩
theorem low_end : lowI 17 + shareI (17 : Nat) = 256 := by decide +kernel
def lg (n : Nat) : Nat := if n = 0 then 0 else Nat.log2 n + 1
theorem lg_half {n : Nat} (h : 0 < n) : lg n = lg (n / 2) + 1 := by
  unfold lg
  rw [if_neg (by omega)]
  by_cases h1 : n / 2 = 0
  · rw [if_pos h1]
    obtain rfl : n = 1 := by omega
    rfl
  · rw [if_neg h1, Nat.log2_def, if_pos (by omega)]
theorem lg_pow {n : Nat} : ∀ {k : Nat}, 2 ^ k ≤ n → lg n = lg (n / 2 ^ k) + k
  | 0, _ => by simp
  | k + 1, h => by
    have h1 : 2 ^ k ≤ n := Nat.le_trans (Nat.pow_le_pow_right (by omega) (by omega)) h
    have h2 : 0 < n / 2 ^ k := Nat.div_pos h1 (Nat.two_pow_pos k)
    have e : n / 2 ^ k / 2 = n / 2 ^ (k + 1) := by rw [Nat.div_div_eq_div_mul, ← Nat.pow_succ]
    rw [lg_pow h1, lg_half h2, e]
    omega
theorem length_loop : ∀ (n : Nat), n < 1099511627776 → ∀ k : Nat, k + lg n ≤ 1000 → loopO spec_l2Length_s1 ((n : Int), (k : Int)) = some ((k + lg n : Nat) : Int) := by
  intro n
  induction n using Nat.strongRecOn with
  | ind n ih =>
    intro hn k hk
    rw [loopO_eq]
    simp only [spec_l2Length_s1, decide_eq_true_eq]
    by_cases h : n = 0
    · subst h
      rw [if_neg (by simp)]
      simp [lg]
    · have hg := lg_half (n := n) (by omega)
      rw [if_pos (by omega)]
      have e : (n : Int).tdiv 2 = ((n / 2 : Nat) : Int) := by rw [Int.tdiv_eq_ediv_of_nonneg (by omega)]; omega
      rw [e, w64 (by omega), w64 (by omega)]
      simp only []
      have := ih (n / 2) (by omega) (by omega) (k + 1) (by omega)
      have e2 : ((k : Int) + 1) = ((k + 1 : Nat) : Int) := by omega
      rw [e2, this]
      congr 2
      omega
theorem lg_lt {n k : Nat} (h : n < 2 ^ k) : lg n ≤ k := by
  unfold lg
  split
  · omega
  · rename_i h0
    have := (Nat.log2_lt h0).2 h
    omega
theorem length_spec {n : Nat} (h : n < 1099511627776) : spec_l2Length (n : Int) = some (lg n : Int) := by
  unfold spec_l2Length
  have h40 : lg n ≤ 40 := lg_lt (k := 40) (by omega)
  have := length_loop n h 0 (by omega)
  simp only [Int.natCast_zero, Nat.zero_add] at this
  rw [this]; rfl
theorem len8 : ∀ i : Fin 256, (([0, 1, 2, 2, 3, 3, 3, 3, 4, 4, 4, 4, 4, 4, 4, 4] ++ List.replicate 16 5 ++ List.replicate 32 6 ++ List.replicate 64 7 ++ List.replicate 128 8 : List UInt8)[i.val]?) = some (UInt8.ofNat (lg i.val)) := by decide +kernel
theorem fdiv_nat {n k : Nat} : (n : Int).fdiv (2 ^ k) = ((n / 2 ^ k : Nat) : Int) := by
  rw [Int.fdiv_eq_ediv_of_nonneg _ (by exact_mod_cast Nat.zero_le _)]
  exact_mod_cast rfl
theorem len64 {n : Nat} (h : n < 16777216) : math_bits_Len64 (n : Int) = some (lg n : Int) := by
  unfold math_bits_Len64
  have d1 : decide ((n : Int) ≥ 4294967296) = false := decide_eq_false (by omega)
  have tab : ∀ m : Nat, m < 256 → ∀ c : Int, 0 ≤ c → c ≤ 100 → (getI ([0, 1, 2, 2, 3, 3, 3, 3, 4, 4, 4, 4, 4, 4, 4, 4] ++ List.replicate 16 5 ++ List.replicate 32 6 ++ List.replicate 64 7 ++ List.replicate 128 8 : List UInt8) (IntKind.u8.wrap (m : Int))).bind (fun x12 => some (IntKind.i64.wrap (c + IntKind.i64.wrap (x12.toNat : Int)))) = some (c + lg m) := fun m hm c h0 h1 => by
    have hl : lg m ≤ 8 := lg_lt (k := 8) (by omega)
    rw [wu8 (n := (m : Int)) (by omega), getI_nat, len8 ⟨m, hm⟩]
    simp only [Option.bind_some]
    have : ((UInt8.ofNat (lg m)).toNat : Int) = lg m := by
      rw [UInt8.toNat_ofNat']
      omega
    rw [this, w64 (n := (lg m : Int)) (by omega), w64 (by omega)]
  have m32 : min 16 64 = 16 := by decide
  have m8 : min 8 64 = 8 := by decide
  by_cases h2 : 65536 ≤ n
  · have e2 : decide ((n : Int) ≥ 65536) = true := decide_eq_true (by omega)
    have hq : n / 2 ^ 16 < 256 := by omega
    have e3 : decide (((n / 2 ^ 16 : Nat) : Int) ≥ 256) = false := decide_eq_false (by omega)
    simp only [math_bits_Len64_u1, d1, Bool.false_eq_true, if_false, math_bits_Len64_u2, math_bits_Len64_u3, e2, if_true, m32, fdiv_nat, e3]
    rw [lg_pow (n := n) (k := 16) (by omega)]
    have := tab (n / 2 ^ 16) hq (IntKind.i64.wrap (0 + 16)) (by decide) (by decide)
    rw [show IntKind.i64.wrap (0 + 16) = 16 by decide] at this ⊢
    rw [show (((lg (n / 2 ^ 16) + 16 : Nat)) : Int) = 16 + lg (n / 2 ^ 16) by omega]
    exact this
  · have e2 : decide ((n : Int) ≥ 65536) = false := decide_eq_false (by omega)
    by_cases h3 : 256 ≤ n
    · have e3 : decide ((n : Int) ≥ 256) = true := decide_eq_true (by omega)
      have hq : n / 2 ^ 8 < 256 := by omega
      simp only [math_bits_Len64_u1, d1, Bool.false_eq_true, if_false, math_bits_Len64_u2, math_bits_Len64_u3, e2, e3, if_true, m8, fdiv_nat]
      rw [lg_pow (n := n) (k := 8) (by omega)]
      have := tab (n / 2 ^ 8) hq (IntKind.i64.wrap (0 + 8)) (by decide) (by decide)
      rw [show IntKind.i64.wrap (0 + 8) = 8 by decide] at this ⊢
      rw [show (((lg (n / 2 ^ 8) + 8 : Nat)) : Int) = 8 + lg (n / 2 ^ 8) by omega]
      exact this
    · have e3 : decide ((n : Int) ≥ 256) = false := decide_eq_false (by omega)
      simp only [math_bits_Len64_u1, d1, Bool.false_eq_true, if_false, math_bits_Len64_u2, math_bits_Len64_u3, e2, e3]
      have := tab n (by omega) 0 (by decide) (by decide)
      rw [Int.zero_add] at this
      exact this
theorem two_loop : ∀ (k : Nat) (m : Int), 0 ≤ m → m * 2 ^ k ≤ 1099511627776 → k ≤ 40 → loopO spec_l4Two_s1 ((k : Int), m) = some (m * 2 ^ k) := by
  intro k
  induction k with
  | zero => intro m h0 h1 h2; rw [loopO_eq]; simp only [spec_l4Two_s1]; rw [if_neg (by simp)]; simp
  | succ k ih =>
    intro m h0 h1 h2
    have e : m * 2 ^ (k + 1) = m * 2 * 2 ^ k := by rw [Int.pow_succ, Int.mul_comm (2 ^ k) 2, Int.mul_assoc]
    have hm : m * 2 ≤ 1099511627776 := by
      have hp : (1 : Int) ≤ 2 ^ k := by exact_mod_cast Nat.one_le_two_pow
      have := Int.mul_le_mul_of_nonneg_left hp (show 0 ≤ m * 2 by omega)
      rw [Int.mul_one] at this
      omega
    rw [loopO_eq]
    simp only [spec_l4Two_s1, decide_eq_true_eq]
    rw [if_pos (by omega), w64 (n := ((k + 1 : Nat) : Int) - 1) (by omega), w64 (n := m * 2) (by omega)]
    simp only []
    have e2 : ((k + 1 : Nat) : Int) - 1 = (k : Int) := by omega
    rw [e2, ih (m * 2) (by omega) (by omega) (by omega), e]
theorem two_eq {k : Nat} (h : k ≤ 40) : spec_l4Two (k : Int) = some (2 ^ k) := by
  unfold spec_l4Two
  have hp : (2 : Int) ^ k ≤ 2 ^ 40 := by exact_mod_cast Nat.pow_le_pow_right (by omega) h
  have := two_loop k 1 (by omega) (by rw [Int.one_mul]; omega) h
  rw [this]; simp
theorem pieces_same {c : Int} (h : 0 ≤ c ∧ c ≤ 1000) : impl_pieces c = spec_l4Pieces c := by
  unfold impl_pieces spec_l4Pieces
  simp only [decide_eq_true_eq]
  rw [w64 (n := c - 1) (by omega), w64 (n := c - 1 - 8) (by omega), w64 (n := c - 9) (by omega)]
  by_cases h1 : c < 2
  · rw [if_pos (by omega), if_pos h1]
  · rw [if_neg (by omega), if_neg h1]
    have : c - 1 - 8 = c - 9 := by omega
    rw [this]
theorem pieces_ok {c : Int} (h : 0 ≤ c ∧ c ≤ 17) : ∀ x ∈ spec_l4Pieces c, 1 ≤ x ∧ x ≤ 8 := by
  unfold spec_l4Pieces
  simp only [decide_eq_true_eq]
  rw [w64 (n := c - 1) (by omega), w64 (n := c - 9) (by omega)]
  intro x hx
  split at hx
  · simp at hx
  · split at hx
    · simp at hx; omega
    · simp at hx; omega
theorem zig_same {v : Int} : impl_zigOf v = spec_l4Zig v := rfl
theorem unzig_same {v : Int} : impl_unzigOf v = spec_l4Unzig v := rfl
theorem search_same {l : List Int} {a r w v : Int} (hv : 0 ≤ v ∧ v < 256) : ∀ (m c : Nat), 17 - c = m → c ≤ 17 → lowI c ≤ v → ∃ c' : Nat, c' ≤ 17 ∧ lowI c' ≤ v ∧ v < lowI c' + shareI c' ∧
    loopO (spec_l4Next_o_s3 l a r w v) (c : Int) = some (c' : Int) ∧ loopO (impl_Decoder_class_o_s1 l a r w v) (lowI c, shareI c, 256, (c : Int)) = some (c' : Int) := by
  have bd : ∀ i : Nat, i ≤ 18 → 0 ≤ lowI i ∧ 0 ≤ shareI i ∧ lowI i + shareI i ≤ 1000 := by
    intro i hi
    have : ∀ i : Fin 19, 0 ≤ lowI i.val ∧ 0 ≤ shareI i.val ∧ lowI i.val + shareI i.val ≤ 1000 := by decide +kernel
    exact this ⟨i, by omega⟩
  intro m
  induction m with
  | zero =>
    intro c hm hc hl
    obtain rfl : c = 17 := by omega
    have e := low_end
    refine ⟨17, by omega, hl, by omega, ?_, ?_⟩
    · rw [loopO_eq]
      simp only [spec_l4Next_o_s3, spec_l4Next_o_u2, decide_eq_true_eq]
      rw [if_neg (by omega)]; rfl
    · rw [loopO_eq]
      simp only [impl_Decoder_class_o_s1, decide_eq_true_eq]
      have := bd 17 (by omega)
      rw [w64 (by omega), if_neg (by omega)]
  | succ m ih =>
    intro c hm hc hl
    have b := bd c (by omega)
    have b' := bd (c + 1) (by omega)
    obtain ⟨k1, k2⟩ := class_same (n := c) (by omega)
    obtain ⟨j1, j2⟩ := class_same (n := c + 1) (by omega)
    by_cases hw : lowI c + shareI c ≤ v
    · obtain ⟨c', q1, q2, q3, q4, q5⟩ := ih (c + 1) (by omega) (by omega) (by simp only [lowI]; omega)
      have e1 : ((c + 1 : Nat) : Int) = (c : Int) + 1 := by omega
      refine ⟨c', q1, q2, q3, ?_, ?_⟩
      · rw [loopO_eq]
        simp only [spec_l4Next_o_s3, spec_l4Next_o_u2, decide_eq_true_eq]
        rw [if_pos (by omega), k1]
        simp only [Option.bind_some, share_spec, decide_eq_true_eq]
        rw [w64 (n := lowI c + shareI c) (by omega), if_pos hw, w64 (by omega), ← e1]
        exact q4
      · rw [loopO_eq]
        simp only [impl_Decoder_class_o_s1, decide_eq_true_eq]
        rw [w64 (n := lowI c + shareI c) (by omega), if_pos hw, w64 (by omega), ← e1, j2]
        simp only [Option.bind_some]
        exact q5
    · refine ⟨c, by omega, hl, by omega, ?_, ?_⟩
      · rw [loopO_eq]
        simp only [spec_l4Next_o_s3, spec_l4Next_o_u2, decide_eq_true_eq]
        rw [if_pos (by omega), k1]
        simp only [Option.bind_some, share_spec, decide_eq_true_eq]
        rw [w64 (n := lowI c + shareI c) (by omega), if_neg hw]
      · rw [loopO_eq]
        simp only [impl_Decoder_class_o_s1, decide_eq_true_eq]
        rw [w64 (n := lowI c + shareI c) (by omega), if_neg hw]
theorem or_add {n v x : Nat} (h : v < 2 ^ x) (hb : n * 2 ^ x + v < 18446744073709551616) : (BitVec.ofInt 64 ((n * 2 ^ x : Nat) : Int) ||| BitVec.ofInt 64 (v : Int)).toNat = n * 2 ^ x + v := by
  rw [BitVec.toNat_or]
  simp only [BitVec.ofInt_natCast, BitVec.toNat_ofNat]
  rw [Nat.mod_eq_of_lt (by omega), Nat.mod_eq_of_lt (by omega), ← Nat.shiftLeft_eq, Nat.shiftLeft_add_eq_or_of_lt h]
theorem piece_same {l : List Int} {ps : List Int} {a r w n : Int} {i x : Nat} (hd : DecOk ⟨l, a, r, w⟩) (hb : ∀ x ∈ l, 0 ≤ x ∧ x ≤ 255) (hn : 1 ≤ n ∧ n ≤ 1048576) (hx : 1 ≤ x ∧ x ≤ 8) (hi : ps[i]? = some (x : Int)) (hl : ps.length ≤ 10) :
    ∃ a' r' w' v, impl_Decoder_number_o_s1 ps (ps.length : Int) (l, a, r, w, n, (i : Int)) = some (.inl (l, a', r', w', n * 2 ^ x + v, (i : Int) + 1)) ∧ spec_l4Next_o_s4 ps (l, a, r, w, n, (i : Int)) = some (.inl (l, a', r', w', n * 2 ^ x + v, (i : Int) + 1)) ∧
      a ≤ a' ∧ a' ≤ a + 2 ∧ (65536 ≤ w' ∧ w' ≤ 16777216) ∧ (0 ≤ r' ∧ r' ≤ w' - 1) ∧ 0 ≤ v ∧ v < 2 ^ x := by
  have hil : i < ps.length := (List.getElem?_eq_some_iff.1 hi).1
  have p1 : (2 : Int) ≤ 2 ^ x := by
    have := Nat.pow_le_pow_right (n := 2) (by omega) hx.1
    exact_mod_cast this
  have p2 : (2 : Int) ^ x ≤ 256 := by
    have := Nat.pow_le_pow_right (n := 2) (by omega) hx.2
    exact_mod_cast this
  obtain ⟨v1, v2, v3, v4⟩ := value_same hd (t := 2 ^ x) (by omega)
  have hso : SlotOk ⟨valI ⟨l, a, r, w⟩ (2 ^ x), 1, 2 ^ x⟩ := ⟨by simp only []; omega, by simp only []; omega, v3, by simp only []; omega⟩
  obtain ⟨a', r', w', t1, t2, t3, t4, t5, t6⟩ := take_same hd hb hso (by simp only []; omega)
  simp only at t1 t2 t3 t4
  generalize hv : valI ⟨l, a, r, w⟩ (2 ^ x) = v at *
  have np : 0 ≤ n * 2 ^ x ∧ n * 2 ^ x ≤ 268435456 := by
    have q1 := Int.mul_le_mul_of_nonneg_left p2 (show 0 ≤ n by omega)
    have q2 := Int.mul_nonneg (show 0 ≤ n by omega) (show (0 : Int) ≤ 2 ^ x by omega)
    omega
  refine ⟨a', r', w', v, ?_, ?_, t3, t4, t5, t6, v3, v4⟩
  · simp only [impl_Decoder_number_o_s1, decide_eq_true_eq]
    have mn : min x 64 = x := by omega
    have or : (BitVec.ofInt 64 (n * 2 ^ x) ||| BitVec.ofInt 64 v).toNat = (n * 2 ^ x + v).toNat := by
      obtain ⟨n', rfl⟩ : ∃ m : Nat, n = m := ⟨n.toNat, by omega⟩
      obtain ⟨v', rfl⟩ : ∃ m : Nat, v = m := ⟨v.toNat, by omega⟩
      have e : ((n' : Int) * 2 ^ x) = ((n' * 2 ^ x : Nat) : Int) := by simp
      rw [e] at np ⊢
      rw [or_add (by exact_mod_cast v4) (by omega)]
      omega
    rw [if_pos (by omega), getI_nat, hi]
    simp only [Option.bind_some, Int.toNat_natCast, hi]
    rw [if_neg (by omega), mn, Int.one_mul, w64 (n := (2 : Int) ^ x) (by omega), v2]
    simp only [Option.bind_some]
    rw [if_neg (by omega), t2]
    simp only [Option.bind_some]
    rw [if_neg (by omega), w64 (n := n * 2 ^ x) (by omega), or, w64 (n := (i : Int) + 1) (by omega)]
    have : ((n * 2 ^ x + v).toNat : Int) = n * 2 ^ x + v := by omega
    rw [this, w64 (by omega)]
  · simp only [spec_l4Next_o_s4, decide_eq_true_eq]
    rw [if_pos (by omega), getI_nat, hi]
    simp only [Option.bind_some, Int.toNat_natCast, hi]
    rw [two_eq (by omega)]
    simp only [Option.bind_some, v1, t1]
    rw [w64 (n := n * 2 ^ x) (by omega), w64 (n := n * 2 ^ x + v) (by omega), w64 (by omega)]
theorem number_same {d : SDecoder} (hd : DecOk d) (hb : ∀ x ∈ d.Data, 0 ≤ x ∧ x ≤ 255) (ha : d.At ≤ 9000) : ∃ z a r w, impl_Decoder_number_o d = some (z, d.Data, a, r, w) ∧ spec_l4Next_o d = some (spec_l4Unzig z, d.Data, a, r, w) ∧
    d.At ≤ a ∧ a ≤ d.At + 6 ∧ (65536 ≤ w ∧ w ≤ 16777216) ∧ (0 ≤ r ∧ r ≤ w - 1) ∧ 0 ≤ z ∧ z < 131072 := by
  obtain ⟨v1, v2, v3, v4⟩ := value_same hd (t := 256) (by omega)
  obtain ⟨c, c1, c2, c3, c4, c5⟩ := search_same (l := d.Data) (a := d.At) (r := d.Rest) (w := d.Range) ⟨v3, v4⟩ 17 0 rfl (by omega) (by simp only [lowI]; omega)
  obtain ⟨k1, k2⟩ := class_same (n := c) (by omega)
  obtain ⟨z1, z2⟩ := class_same (n := 0) (by omega)
  have hs := low_ok c1
  obtain ⟨a, r, w, t1, t2, t3, t4, t5, t6, t7⟩ := take_same hd hb hs (by simp only []; omega)
  have cls : impl_Decoder_class_o d = some ((c : Int), d.Data, a, r, w) := by
    unfold impl_Decoder_class_o
    rw [v2]
    simp only [Option.bind_some]
    have z2' : impl_classSlot 0 = some ⟨lowI 0, shareI 0, 256⟩ := z2
    rw [z2']
    simp only [Option.bind_some]
    have c5' : loopO (impl_Decoder_class_o_s1 d.Data d.At d.Rest d.Range (valI d 256)) (lowI 0, shareI 0, 256, 0) = some (c : Int) := c5
    rw [c5']
    simp only [Option.bind_some, k2, t2]
  have c4' : loopO (spec_l4Next_o_s3 d.Data d.At d.Rest d.Range (valI d 256)) 0 = some (c : Int) := c4
  unfold impl_Decoder_number_o spec_l4Next_o
  rw [cls, v1]
  simp only [Option.bind_some, c4', k1, t1, beq_iff_eq]
  by_cases h0 : c = 0
  · subst h0
    rw [if_pos (by simp), if_pos (by simp)]
    exact ⟨0, a, r, w, rfl, rfl, t3, by omega, t5, ⟨t6, t7⟩, by omega, by omega⟩
  · rw [if_neg (by omega), if_neg (by omega), pieces_same ⟨by omega, by omega⟩]
    have fI : ∀ (ps l : List Int) (a r w n : Int), impl_Decoder_number_o_s1 ps (ps.length : Int) (l, a, r, w, n, (ps.length : Int)) = some (.inr (l, a, r, w, n)) := by
      intros; simp only [impl_Decoder_number_o_s1, decide_eq_true_eq]; rw [if_neg (by omega)]
    have fS : ∀ (ps l : List Int) (a r w n : Int), spec_l4Next_o_s4 ps (l, a, r, w, n, (ps.length : Int)) = some (.inr (l, a, r, w, n)) := by
      intros; simp only [spec_l4Next_o_s4, decide_eq_true_eq]; rw [if_neg (by omega)]
    have hcase : spec_l4Pieces (c : Int) = [] ∨ (∃ x : Nat, (1 ≤ x ∧ x ≤ 8) ∧ spec_l4Pieces c = [(x : Int)]) ∨ ∃ x : Nat, (1 ≤ x ∧ x ≤ 8) ∧ spec_l4Pieces c = [(x : Int), ((8 : Nat) : Int)] := by
      unfold spec_l4Pieces
      simp only [decide_eq_true_eq]
      rw [w64 (n := (c : Int) - 1) (by omega), w64 (n := (c : Int) - 9) (by omega)]
      by_cases q1 : (c : Int) < 2
      · rw [if_pos q1]; exact .inl rfl
      · rw [if_neg q1]
        by_cases q2 : (c : Int) - 1 > 8
        · rw [if_pos q2]
          refine .inr (.inr ⟨c - 9, by omega, ?_⟩)
          have : (c : Int) - 9 = ((c - 9 : Nat) : Int) := by omega
          rw [this]; rfl
        · rw [if_neg q2]
          refine .inr (.inl ⟨c - 1, by omega, ?_⟩)
          have : (c : Int) - 1 = ((c - 1 : Nat) : Int) := by omega
          rw [this]
    have hd1 : DecOk ⟨d.Data, a, r, w⟩ := ⟨hd.1, ⟨by have := hd.2.1; simp only []; omega, by simp only []; omega⟩, t5, t6, t7⟩
    rcases hcase with e | ⟨x, hx, e⟩ | ⟨x, hx, e⟩
    · rw [e]
      have i1 := fI [] d.Data a r w 1
      have s1 := fS [] d.Data a r w 1
      simp only [List.length_nil, Int.natCast_zero] at i1 s1 ⊢
      rw [loopO_eq, i1, loopO_eq, s1]
      exact ⟨1, a, r, w, rfl, rfl, t3, by omega, t5, ⟨t6, t7⟩, by omega, by omega⟩
    · rw [e]
      have px : (2 : Int) ^ x ≤ 256 := by
        have := Nat.pow_le_pow_right (n := 2) (by omega) hx.2
        exact_mod_cast this
      obtain ⟨a', r', w', v, i1, s1, u1, u2, u3, u4, u5, u6⟩ := piece_same (ps := [(x : Int)]) (i := 0) hd1 hb (n := 1) (by omega) hx rfl (by simp)
      have i2 := fI [(x : Int)] d.Data a' r' w' (1 * 2 ^ x + v)
      have s2 := fS [(x : Int)] d.Data a' r' w' (1 * 2 ^ x + v)
      simp only [List.length_singleton, Int.natCast_zero, Int.zero_add, Int.natCast_one] at i1 s1 i2 s2 ⊢
      rw [loopO_eq, i1, loopO_eq (step := spec_l4Next_o_s4 _), s1]
      simp only []
      rw [loopO_eq, i2, loopO_eq (step := spec_l4Next_o_s4 _), s2]
      exact ⟨1 * 2 ^ x + v, a', r', w', rfl, rfl, by omega, by omega, u3, u4, by omega, by omega⟩
    · rw [e]
      have px : (2 : Int) ^ x ≤ 256 := by
        have := Nat.pow_le_pow_right (n := 2) (by omega) hx.2
        exact_mod_cast this
      obtain ⟨a', r', w', v, i1, s1, u1, u2, u3, u4, u5, u6⟩ := piece_same (ps := [(x : Int), ((8 : Nat) : Int)]) (i := 0) hd1 hb (n := 1) (by omega) hx rfl (by simp)
      have hd2 : DecOk ⟨d.Data, a', r', w'⟩ := ⟨hd.1, ⟨by have := hd.2.1; simp only []; omega, by simp only []; omega⟩, u3, u4⟩
      obtain ⟨a2, r2, w2, v', i2, s2, g1, g2, g3, g4, g5, g6⟩ := piece_same (ps := [(x : Int), ((8 : Nat) : Int)]) (i := 1) hd2 hb (n := 1 * 2 ^ x + v) (by omega) (x := 8) (by omega) rfl (by simp)
      have i3 := fI [(x : Int), ((8 : Nat) : Int)] d.Data a2 r2 w2 ((1 * 2 ^ x + v) * 2 ^ 8 + v')
      have s3 := fS [(x : Int), ((8 : Nat) : Int)] d.Data a2 r2 w2 ((1 * 2 ^ x + v) * 2 ^ 8 + v')
      have e1 : ((0 : Nat) : Int) + 1 = ((1 : Nat) : Int) := rfl
      have e2 : ((1 : Nat) : Int) + 1 = (([(x : Int), ((8 : Nat) : Int)].length : Nat) : Int) := rfl
      rw [e1] at i1 s1
      rw [e2] at i2 s2
      have z0 : ((0 : Nat) : Int) = 0 := rfl
      rw [z0] at i1 s1
      rw [loopO_eq, i1, loopO_eq (step := spec_l4Next_o_s4 _), s1]
      simp only []
      rw [loopO_eq, i2, loopO_eq (step := spec_l4Next_o_s4 _), s2]
      simp only []
      rw [loopO_eq, i3, loopO_eq (step := spec_l4Next_o_s4 _), s3]
      have p8 : (2 : Int) ^ 8 = 256 := by decide
      rw [p8] at g6 ⊢
      exact ⟨(1 * 2 ^ x + v) * 256 + v', a2, r2, w2, rfl, rfl, by omega, by omega, g3, g4, by omega, by omega⟩
theorem slot_step {ps : List Int} {l : List SSlot} {n rest i x : Nat} (hn : n < 16777216) (hx : 1 ≤ x ∧ x ≤ 8) (hi : ps[i]? = some (x : Int)) (hr : x ≤ rest) (hr2 : rest ≤ 40) (hl : l.length ≤ 100) (hp : ps.length ≤ 10) :
    impl_slotsOf_s1 ps (n : Int) (ps.length : Int) (l, (rest : Int), (i : Int)) = some (.inl (l ++ [⟨((n / 2 ^ (rest - x) % 2 ^ x : Nat) : Int), 1, 2 ^ x⟩], ((rest - x : Nat) : Int), (i : Int) + 1)) ∧
    spec_l4Slots_s1 ps (n : Int) (l, (rest : Int), (i : Int)) = some (.inl (l ++ [⟨((n / 2 ^ (rest - x) % 2 ^ x : Nat) : Int), 1, 2 ^ x⟩], ((rest - x : Nat) : Int), (i : Int) + 1)) := by
  have hil : i < ps.length := (List.getElem?_eq_some_iff.1 hi).1
  have p1 : (2 : Int) ≤ 2 ^ x := by
    have := Nat.pow_le_pow_right (n := 2) (by omega) hx.1
    exact_mod_cast this
  have p2 : (2 : Int) ^ x ≤ 256 := by
    have := Nat.pow_le_pow_right (n := 2) (by omega) hx.2
    exact_mod_cast this
  have e1 : IntKind.i64.wrap ((rest : Int) - x) = ((rest - x : Nat) : Int) := by rw [w64 (by omega)]; omega
  have q : n / 2 ^ (rest - x) ≤ n := Nat.div_le_self _ _
  have fd : (n : Int).fdiv (2 ^ (rest - x)) = ((n / 2 ^ (rest - x) : Nat) : Int) := fdiv_nat
  have d1 : (n : Int).tdiv (2 ^ (rest - x)) = ((n / 2 ^ (rest - x) : Nat) : Int) := by
    rw [Int.tdiv_eq_ediv_of_nonneg (Int.natCast_nonneg _)]
    exact_mod_cast rfl
  have pr : (1 : Int) ≤ 2 ^ (rest - x) := by exact_mod_cast Nat.one_le_two_pow
  generalize n / 2 ^ (rest - x) = m at *
  have d2 : (m : Int).tmod (2 ^ x) = ((m % 2 ^ x : Nat) : Int) := by
    rw [Int.tmod_eq_emod_of_nonneg (Int.natCast_nonneg _)]
    exact_mod_cast rfl
  have am : (BitVec.ofInt 64 (m : Int) &&& BitVec.ofInt 64 (2 ^ x - 1)).toNat = m % 2 ^ x := by
    have := and_mask (w := 64) (a := (m : Int)) (m := x) (by omega) (by omega) (by omega) (by omega)
    rw [Int.toNat_natCast] at this
    exact this
  have q2 : m % 2 ^ x < 2 ^ x := Nat.mod_lt _ (Nat.two_pow_pos x)
  have q2' : ((m % 2 ^ x : Nat) : Int) < 2 ^ x := by exact_mod_cast q2
  have q3 : m % 2 ^ x ≤ m := Nat.mod_le _ _
  generalize m % 2 ^ x = u at *
  constructor
  · simp only [impl_slotsOf_s1, decide_eq_true_eq]
    have mn : min x 64 = x := by omega
    have mr : min (rest - x) 64 = rest - x := by omega
    rw [if_pos (by omega), getI_nat, hi]
    simp only [Option.bind_some, Int.toNat_natCast, hi, e1]
    rw [if_neg (by omega), if_neg (by omega), if_neg (by omega), mn, mr, Int.one_mul, w64 (n := (2 : Int) ^ x) (by omega), w64 (n := (2 : Int) ^ x - 1) (by omega), fd, am, w64 (n := (u : Int)) (by omega), if_pos (okApp_of (by simp; omega)), w64 (by omega)]
  · simp only [spec_l4Slots_s1, decide_eq_true_eq]
    rw [if_pos (by omega), getI_nat, hi]
    simp only [Option.bind_some, Int.toNat_natCast, hi, e1]
    rw [two_eq (by omega), two_eq (by omega)]
    simp only [Option.bind_some]
    rw [if_neg (by omega), if_neg (by omega), d1, w64 (n := (m : Int)) (by omega), d2, if_pos (okApp_of (by simp; omega)), w64 (by omega)]
theorem zig_eq {v : Int} (hv : -65535 ≤ v ∧ v ≤ 65535) : ∃ n : Nat, n < 131072 ∧ spec_l4Zig v = (n : Int) := by
  unfold spec_l4Zig
  simp only [decide_eq_true_eq]
  by_cases h : v < 0
  · rw [if_pos h, w64 (n := -2 * v) (by omega), w64 (by omega)]
    exact ⟨(-2 * v - 1).toNat, by omega, by omega⟩
  · rw [if_neg h, w64 (by omega)]
    exact ⟨(2 * v).toNat, by omega, by omega⟩
theorem pieces_cases {c : Nat} (h : c ≤ 17) : (c ≤ 1 ∧ spec_l4Pieces (c : Int) = []) ∨ (∃ x : Nat, (1 ≤ x ∧ x ≤ 8) ∧ c = x + 1 ∧ spec_l4Pieces c = [(x : Int)]) ∨ ∃ x : Nat, (1 ≤ x ∧ x ≤ 8) ∧ c = x + 9 ∧ spec_l4Pieces c = [(x : Int), ((8 : Nat) : Int)] := by
  unfold spec_l4Pieces
  simp only [decide_eq_true_eq]
  rw [w64 (n := (c : Int) - 1) (by omega), w64 (n := (c : Int) - 9) (by omega)]
  by_cases q1 : (c : Int) < 2
  · rw [if_pos q1]; exact .inl ⟨by omega, rfl⟩
  · rw [if_neg q1]
    by_cases q2 : (c : Int) - 1 > 8
    · rw [if_pos q2]
      refine .inr (.inr ⟨c - 9, by omega, by omega, ?_⟩)
      have : (c : Int) - 9 = ((c - 9 : Nat) : Int) := by omega
      rw [this]; rfl
    · rw [if_neg q2]
      refine .inr (.inl ⟨c - 1, by omega, by omega, ?_⟩)
      have : (c : Int) - 1 = ((c - 1 : Nat) : Int) := by omega
      rw [this]
theorem slot_one {n k x : Nat} (hx : 1 ≤ x ∧ x ≤ 8) : SlotOk ⟨((n / 2 ^ k % 2 ^ x : Nat) : Int), 1, 2 ^ x⟩ := by
  have p1 : (2 : Int) ≤ 2 ^ x := by
    have := Nat.pow_le_pow_right (n := 2) (by omega) hx.1
    exact_mod_cast this
  have p2 : (2 : Int) ^ x ≤ 256 := by
    have := Nat.pow_le_pow_right (n := 2) (by omega) hx.2
    exact_mod_cast this
  have q2' : ((n / 2 ^ k % 2 ^ x : Nat) : Int) < 2 ^ x := by exact_mod_cast Nat.mod_lt _ (Nat.two_pow_pos x)
  generalize n / 2 ^ k % 2 ^ x = u at *
  exact ⟨by simp only []; omega, by simp only []; omega, by simp only []; omega, by simp only []; omega⟩
theorem slots_same {v : Int} (hv : -65535 ≤ v ∧ v ≤ 65535) : ∃ l, spec_l4Slots v = some l ∧ impl_slotsOf v = some l ∧ l.length ≤ 3 ∧ ∀ s ∈ l, SlotOk s := by
  obtain ⟨n, hn, hz⟩ := zig_eq hv
  have hlg : lg n ≤ 17 := lg_lt (by omega)
  obtain ⟨k1, k2⟩ := class_same (n := lg n) (by omega)
  have hs := low_ok hlg
  unfold spec_l4Slots impl_slotsOf
  rw [zig_same, hz, wu64 (by omega), length_spec (by omega), len64 (by omega)]
  simp only [Option.bind_some, k1, k2]
  rw [pieces_same ⟨by omega, by omega⟩]
  have fI : ∀ (ps : List Int) (l : List SSlot) (z r : Int), impl_slotsOf_s1 ps z (ps.length : Int) (l, r, (ps.length : Int)) = some (.inr l) := by
    intros; simp only [impl_slotsOf_s1, decide_eq_true_eq]; rw [if_neg (by omega)]
  have fS : ∀ (ps : List Int) (l : List SSlot) (z r : Int), spec_l4Slots_s1 ps z (l, r, (ps.length : Int)) = some (.inr l) := by
    intros; simp only [spec_l4Slots_s1, decide_eq_true_eq]; rw [if_neg (by omega)]
  have z0 : ((0 : Nat) : Int) = 0 := rfl
  rcases pieces_cases hlg with ⟨_, e⟩ | ⟨x, hx, hc, e⟩ | ⟨x, hx, hc, e⟩
  · rw [e]
    have i1 := fI [] [⟨lowI (lg n), shareI (lg n), 256⟩] n (IntKind.i64.wrap ((lg n : Int) - 1))
    have s1 := fS [] [⟨lowI (lg n), shareI (lg n), 256⟩] n (IntKind.i64.wrap ((lg n : Int) - 1))
    simp only [List.length_nil, z0] at i1 s1 ⊢
    rw [loopO_eq, s1, loopO_eq, i1]
    exact ⟨_, rfl, rfl, by simp, by simpa using hs⟩
  · rw [e]
    have er : IntKind.i64.wrap ((lg n : Int) - 1) = ((lg n - 1 : Nat) : Int) := by rw [w64 (by omega)]; omega
    rw [er]
    obtain ⟨i1, s1⟩ := slot_step (ps := [(x : Int)]) (l := [⟨lowI (lg n), shareI (lg n), 256⟩]) (n := n) (rest := lg n - 1) (i := 0) (by omega) hx rfl (by omega) (by omega) (by simp) (by simp)
    have e1 : ((0 : Nat) : Int) + 1 = (([(x : Int)].length : Nat) : Int) := rfl
    rw [e1, z0] at i1 s1
    rw [loopO_eq, s1, loopO_eq (step := impl_slotsOf_s1 _ _ _), i1]
    simp only []
    rw [loopO_eq, fS, loopO_eq (step := impl_slotsOf_s1 _ _ _), fI]
    refine ⟨_, rfl, rfl, by simp, fun s hm => ?_⟩
    rcases List.mem_append.1 hm with hm | hm
    · simp at hm; subst hm; exact hs
    · simp only [List.mem_singleton] at hm; subst hm; exact slot_one hx
  · rw [e]
    have er : IntKind.i64.wrap ((lg n : Int) - 1) = ((lg n - 1 : Nat) : Int) := by rw [w64 (by omega)]; omega
    rw [er]
    obtain ⟨i1, s1⟩ := slot_step (ps := [(x : Int), ((8 : Nat) : Int)]) (l := [⟨lowI (lg n), shareI (lg n), 256⟩]) (n := n) (rest := lg n - 1) (i := 0) (by omega) hx rfl (by omega) (by omega) (by simp) (by simp)
    obtain ⟨i2, s2⟩ := slot_step (ps := [(x : Int), ((8 : Nat) : Int)]) (l := [⟨lowI (lg n), shareI (lg n), 256⟩] ++ [⟨((n / 2 ^ (lg n - 1 - x) % 2 ^ x : Nat) : Int), 1, 2 ^ x⟩]) (n := n) (rest := lg n - 1 - x) (i := 1) (x := 8) (by omega) (by omega) rfl (by omega) (by omega) (by simp) (by simp)
    have e1 : ((0 : Nat) : Int) + 1 = ((1 : Nat) : Int) := rfl
    have e2 : ((1 : Nat) : Int) + 1 = (([(x : Int), ((8 : Nat) : Int)].length : Nat) : Int) := rfl
    rw [e1, z0] at i1 s1
    rw [e2] at i2 s2
    rw [loopO_eq, s1, loopO_eq (step := impl_slotsOf_s1 _ _ _), i1]
    simp only []
    rw [loopO_eq, s2, loopO_eq (step := impl_slotsOf_s1 _ _ _), i2]
    simp only []
    rw [loopO_eq, fS, loopO_eq (step := impl_slotsOf_s1 _ _ _), fI]
    refine ⟨_, rfl, rfl, by simp, fun s hm => ?_⟩
    rcases List.mem_append.1 hm with hm | hm
    · rcases List.mem_append.1 hm with hm | hm
      · simp at hm; subst hm; exact hs
      · simp only [List.mem_singleton] at hm; subst hm; exact slot_one hx
    · simp only [List.mem_singleton] at hm; subst hm; exact slot_one (by omega)
def trimN (l : List Int) : Nat → Nat
  | 0 => 0
  | k + 1 => if l[k]? = some 0 then trimN l k else k + 1
theorem trim_spec {l : List Int} (hl : l.length ≤ 1000000) : ∀ k : Nat, k ≤ l.length → loopO (spec_l3Encode_s8 l) k = some (trimN l k)
  | 0, _ => by
    rw [loopO_eq]
    simp only [spec_l3Encode_s8, spec_l3Encode_u7]
    rw [if_neg (by decide)]; rfl
  | k + 1, h => by
    obtain ⟨x, hx, _⟩ := get_lt (l := l) (i := k) (by omega)
    have hx2 : (l.take (k + 1))[k]? = some x := by rw [List.getElem?_take_of_lt (by omega)]; exact hx
    have e1 : IntKind.i64.wrap (((k + 1 : Nat) : Int) - 1) = (k : Int) := by rw [w64 (by omega)]; omega
    rw [loopO_eq]
    simp only [spec_l3Encode_s8, spec_l3Encode_u7, e1, decide_eq_true_eq]
    rw [if_pos (by omega), getI_nat, hx2, Int.toNat_natCast, hx]
    simp only [Option.bind_some, beq_iff_eq, trimN, hx, Option.some.injEq]
    by_cases h0 : x = 0
    · rw [if_pos h0, if_pos h0]
      have : upI (k + 1) (k : Int) = some k := by unfold upI; rw [if_pos (by omega), Int.toNat_natCast]
      rw [this]
      simp only [Option.bind_some]
      exact trim_spec hl k (by omega)
    · rw [if_neg h0, if_neg h0]
theorem trim_impl {l : List Int} (hl : l.length ≤ 1000000) : ∀ k : Nat, k ≤ l.length → loopO (bytes_trimRightByte_s3 0) (l.take k) = some (l.take (trimN l k))
  | 0, _ => by
    rw [loopO_eq]
    simp only [bytes_trimRightByte_s3, bytes_trimRightByte_u2]
    rw [if_neg (by simp)]; simp [trimN]
  | k + 1, h => by
    obtain ⟨x, hx, _⟩ := get_lt (l := l) (i := k) (by omega)
    have hx2 : (l.take (k + 1))[k]? = some x := by rw [List.getElem?_take_of_lt (by omega)]; exact hx
    have hlen : (l.take (k + 1)).length = k + 1 := by rw [List.length_take]; omega
    have e1 : IntKind.i64.wrap (((k + 1 : Nat) : Int) - 1) = (k : Int) := by rw [w64 (by omega)]; omega
    rw [loopO_eq]
    simp only [bytes_trimRightByte_s3, bytes_trimRightByte_u2, hlen, e1, decide_eq_true_eq]
    rw [if_pos (by omega), getI_nat, hx2]
    simp only [Option.bind_some, beq_iff_eq, trimN, hx, Option.some.injEq]
    by_cases h0 : x = 0
    · rw [if_pos h0, if_pos h0]
      have : subI (l.take (k + 1)) 0 (k : Int) = some (l.take k) := by
        unfold subI cutI
        rw [hlen, if_pos (by omega), if_pos (by omega)]
        simp [List.take_take]
      rw [this]
      simp only [Option.bind_some]
      exact trim_impl hl k (by omega)
    · rw [if_neg h0, if_neg h0]
theorem trimRight_eq {l : List Int} (hl : l.length ≤ 1000000) : bytes_TrimRight_lit l = some (l.take (trimN l l.length)) := by
  unfold bytes_TrimRight_lit bytes_TrimRight_lit_u1
  have ne : (([0] : List UInt8) == []) = false := rfl
  rcases Nat.eq_zero_or_pos l.length with h | h
  · obtain rfl : l = [] := List.eq_nil_of_length_eq_zero h
    simp
  · have h1 : ¬ ((l.length : Int) = 0) := by omega
    have := trim_impl hl l.length (by omega)
    rw [List.take_length] at this
    simp [h1, bytes_trimRightByte, this]
    intro e; rw [e] at h; simp at h
def numR : List Int → Int
  | [] => 0
  | x :: l => x + 256 * numR l
def carryR : List Int → List Int
  | [] => []
  | x :: l => if x = 255 then 0 :: carryR l else (x + 1) :: l
theorem carryR_len : ∀ l : List Int, (carryR l).length = l.length
  | [] => rfl
  | x :: l => by simp only [carryR]; split <;> simp [carryR_len l]
theorem carryR_bytes : ∀ {l : List Int}, (∀ x ∈ l, 0 ≤ x ∧ x ≤ 255) → ∀ x ∈ carryR l, 0 ≤ x ∧ x ≤ 255
  | [], h => by simp [carryR]
  | x :: l, h => by
    have hx := h x (by simp)
    have hl : ∀ y ∈ l, 0 ≤ y ∧ y ≤ 255 := fun y hy => h y (by simp [hy])
    simp only [carryR]
    split
    · intro y hy
      rcases List.mem_cons.1 hy with rfl | hy
      · omega
      · exact carryR_bytes hl y hy
    · intro y hy
      rcases List.mem_cons.1 hy with rfl | hy
      · omega
      · exact hl y hy
theorem numR_pos : ∀ {l : List Int}, (∀ x ∈ l, 0 ≤ x ∧ x ≤ 255) → 0 ≤ numR l
  | [], _ => by simp [numR]
  | x :: l, h => by
    have hx := h x (by simp)
    have := numR_pos (l := l) fun y hy => h y (by simp [hy])
    simp only [numR]; omega
theorem carryR_num : ∀ {l : List Int}, (∃ x ∈ l, x ≠ 255) → numR (carryR l) = numR l + 1
  | [], h => by obtain ⟨_, h, _⟩ := h; simp at h
  | x :: l, h => by
    simp only [carryR]
    by_cases hx : x = 255
    · rw [if_pos hx]
      obtain ⟨y, hy, hn⟩ := h
      rcases List.mem_cons.1 hy with rfl | hy
      · exact absurd hx hn
      · have := carryR_num (l := l) ⟨y, hy, hn⟩
        simp only [numR, this]; omega
    · rw [if_neg hx]; simp only [numR]; omega
theorem not_full : ∀ {l : List Int} {k : Int}, numR l + 1 < 256 ^ l.length → ∃ x ∈ l, x ≠ 255
  | [], _, h => by simp [numR] at h
  | x :: l, k, h => by
    by_cases hx : x = 255
    · subst hx
      simp only [numR, List.length_cons, Int.pow_succ] at h
      obtain ⟨y, hy, hn⟩ := not_full (l := l) (k := k) (by generalize (256 : Int) ^ l.length = p at *; omega)
      exact ⟨y, by simp [hy], hn⟩
    · exact ⟨x, by simp, hx⟩
theorem numR_cons {l : List Int} {x : Int} : numR (l ++ [x]).reverse = x + 256 * numR l.reverse := by simp [numR]
def carryF (l : List Int) : List Int := (carryR l.reverse).reverse
theorem carryF_len {l : List Int} : (carryF l).length = l.length := by simp [carryF, carryR_len]
theorem carry_loops : ∀ (r c : List Int), r.length ≤ 100000 → (∀ x ∈ r, 0 ≤ x ∧ x ≤ 255) → (∃ x ∈ r, x ≠ 255) → ∃ (x : Int) (r2 z : List Int), 0 ≤ x ∧ x < 255 ∧ r2.length < r.length ∧ (carryR r).reverse ++ c = r2.reverse ++ (x + 1) :: z ∧
    loopO impl_carry_s1 (r.reverse ++ c, (r.length : Int) - 1) = some (r2.reverse ++ x :: z, (r2.length : Int)) ∧
    loopO spec_l3Carry_s1 (r.reverse ++ c, (r.length : Int) - 1) = some (.inr ((carryR r).reverse ++ c))
  | [], c, _, _, h => by obtain ⟨_, h, _⟩ := h; simp at h
  | x :: r, c, hl, hb, h => by
    have hx := hb x (by simp)
    simp only [List.length_cons] at hl
    have e0 : (((x :: r).length : Nat) : Int) - 1 = (r.length : Int) := by simp only [List.length_cons]; omega
    have eg : ((x :: r).reverse ++ c)[r.length]? = some x := by simp
    have es : ∀ v, ((x :: r).reverse ++ c).set r.length v = r.reverse ++ v :: c := fun v => by simp [List.set_append]
    rw [e0, loopO_eq, loopO_eq (step := spec_l3Carry_s1)]
    simp only [impl_carry_s1, spec_l3Carry_s1, getI_nat, Int.toNat_natCast, eg, es, Option.bind_some, decide_eq_true_eq, beq_iff_eq]
    rw [if_pos (show (r.length : Int) ≥ 0 by omega)]
    by_cases h5 : x = 255
    · rw [if_pos h5, if_neg (by omega)]
      simp only [carryR, if_pos h5]
      obtain ⟨y, hy, hn⟩ := h
      have hy' : y ∈ r := by
        rcases List.mem_cons.1 hy with rfl | hy
        · exact absurd h5 hn
        · exact hy
      obtain ⟨x2, r2, z, q1, q2, q3, q4, q5, q6⟩ := carry_loops r (0 :: c) (by omega) (fun y hy => hb y (by simp [hy])) ⟨y, hy', hn⟩
      rw [w64 (by omega)]
      refine ⟨x2, r2, z, q1, q2, by simp only [List.length_cons]; omega, ?_, q5, ?_⟩
      · simpa using q4
      · simpa using q6
    · rw [if_neg h5, if_pos (by omega)]
      simp only [carryR, if_neg h5]
      rw [wu8 (by omega)]
      exact ⟨x, r, c, hx.1, by omega, by simp, by simp, by simp, by simp⟩
theorem carry_same {l : List Int} (hl : l.length ≤ 100000) (hb : ∀ x ∈ l, 0 ≤ x ∧ x ≤ 255) (h : ∃ x ∈ l, x ≠ 255) : impl_carry l = some (carryF l) ∧ spec_l3Carry l = some (carryF l) := by
  obtain ⟨y, hy, hn⟩ := h
  obtain ⟨x, r2, z, q1, q2, q3, q4, q5, q6⟩ := carry_loops l.reverse [] (by simpa using hl) (fun x hx => hb x (by simpa using hx)) ⟨y, by simpa using hy, hn⟩
  simp only [List.reverse_reverse, List.append_nil, List.length_reverse] at q3 q4 q5 q6
  have hp : 0 < l.length := by cases l with
    | nil => simp at hy
    | cons => simp
  constructor
  · unfold impl_carry
    rw [w64 (by omega), q5]
    have eg : (r2.reverse ++ x :: z)[r2.length]? = some x := by simp
    have es : ∀ v, (r2.reverse ++ x :: z).set r2.length v = r2.reverse ++ v :: z := fun v => by simp [List.set_append]
    simp only [Option.bind_some, getI_nat, Int.toNat_natCast, eg, es]
    rw [wu8 (by omega), carryF, q4]
  · unfold spec_l3Carry spec_l1Copy
    rw [if_pos (okApp_of (by omega))]
    simp only [Option.bind_some]
    rw [w64 (by omega), q6]
    rfl
/-- The encoder's state: bytes, low, width. -/
def EInv (o : List Int) (l w : Int) : Prop := (∀ x ∈ o, 0 ≤ x ∧ x ≤ 255) ∧ (0 ≤ l ∧ l < 16777216) ∧ (1 ≤ w ∧ w ≤ 16777216) ∧ numR o.reverse * 16777216 + l + w ≤ 256 ^ o.length * 16777216
def emit : Nat → List Int → Int → Int → List Int × Int × Int
  | 0, o, l, w => (o, l, w)
  | n + 1, o, l, w => if w < 65536 then emit n (o ++ [l / 65536]) (l % 65536 * 256) (w * 256) else (o, l, w)
theorem emit_inv {o : List Int} {l w : Int} (h : EInv o l w) (hw : w < 65536) : EInv (o ++ [l / 65536]) (l % 65536 * 256) (w * 256) := by
  obtain ⟨h1, h2, h3, h4⟩ := h
  refine ⟨fun x hx => ?_, by omega, by omega, ?_⟩
  · rcases List.mem_append.1 hx with hx | hx
    · exact h1 x hx
    · simp at hx; omega
  · rw [numR_cons, List.length_append, List.length_singleton, Int.pow_succ]
    generalize numR o.reverse = a at *
    generalize (256 : Int) ^ o.length = p at *
    omega
theorem emit_same {ls : List SSlot} {i1 i2 i3 : Int} : ∀ (n : Nat) (o : List Int) (l w : Int), EInv o l w → 65536 ≤ w * 256 ^ n → o.length + n ≤ 100000 →
    loopO (spec_l3Encode_s4 ls i1) (o, l, w) = some (emit n o l w) ∧ loopO (impl_encode_s4 ls i2 i3) (o, l, w) = some (emit n o l w) ∧
    EInv (emit n o l w).1 (emit n o l w).2.1 (emit n o l w).2.2 ∧ 65536 ≤ (emit n o l w).2.2 ∧ (emit n o l w).1.length ≤ o.length + n
  | 0, o, l, w, h, hw, hl => by
    have : 65536 ≤ w := by simpa using hw
    rw [loopO_eq, loopO_eq (step := impl_encode_s4 _ _ _)]
    simp only [spec_l3Encode_s4, impl_encode_s4, decide_eq_true_eq]
    rw [if_neg (by omega), if_neg (by omega)]
    exact ⟨rfl, rfl, h, this, by simp [emit]⟩
  | n + 1, o, l, w, h, hw, hl => by
    rw [loopO_eq, loopO_eq (step := impl_encode_s4 _ _ _)]
    simp only [spec_l3Encode_s4, impl_encode_s4, decide_eq_true_eq, emit]
    by_cases hc : w < 65536
    · have hi := emit_inv h hc
      obtain ⟨h1, h2, h3, h4⟩ := h
      have ef : l.fdiv (2 ^ (min 16 64)) = l / 65536 := by
        rw [show min 16 64 = 16 by decide, fdiv_pow h2.1]
        obtain ⟨n, rfl⟩ : ∃ n : Nat, l = n := ⟨l.toNat, by omega⟩
        simp
      have et : l.tdiv 65536 = l / 65536 := Int.tdiv_eq_ediv_of_nonneg h2.1
      have em : l.tmod 65536 = l % 65536 := Int.tmod_eq_emod_of_nonneg h2.1
      rw [ef, et, em, w64 (n := l / 65536) (by omega), wu8 (by omega), w64 (by omega), w64 (n := w * 256) (by omega)]
      rw [if_pos hc, if_pos hc, if_pos (okApp_of (by rw [List.length_append, List.length_singleton]; omega))]
      obtain ⟨q1, q2, q3, q4, q5⟩ := emit_same (ls := ls) (i1 := i1) (i2 := i2) (i3 := i3) n _ _ _ hi (by rw [Int.pow_succ, Int.mul_comm (256 ^ n) 256, ← Int.mul_assoc] at hw; exact hw) (by simp; omega)
      refine ⟨q1, q2, q3, q4, ?_⟩
      simp only [List.length_append, List.length_singleton] at q5
      omega
    · rw [if_neg hc, if_neg hc, if_neg hc]
      exact ⟨rfl, rfl, h, by simp only []; omega, by simp⟩
def encStep (st : List Int × Int × Int) (s : SSlot) : List Int × Int × Int :=
  if st.2.1 + st.2.2 / s.Total * s.Low ≥ 16777216 then emit 2 (carryF st.1) (st.2.1 + st.2.2 / s.Total * s.Low - 16777216) (widthI st.2.2 s) else emit 2 st.1 (st.2.1 + st.2.2 / s.Total * s.Low) (widthI st.2.2 s)
def enc (ls : List SSlot) : List Int × Int × Int := ls.foldl encStep ([], 0, 16777216)
/-- Behind a slot, before bytes go out: carried. -/
theorem carried {o : List Int} {l w : Int} {s : SSlot} (h : EInv o l w) (hw : 65536 ≤ w) (hs : SlotOk s) :
    (l + w / s.Total * s.Low < 16777216 → EInv o (l + w / s.Total * s.Low) (widthI w s)) ∧
    (l + w / s.Total * s.Low ≥ 16777216 → (∃ x ∈ o, x ≠ 255) ∧ EInv (carryF o) (l + w / s.Total * s.Low - 16777216) (widthI w s)) ∧ 64 ≤ widthI w s ∧ 0 ≤ w / s.Total * s.Low ∧ w / s.Total * s.Low ≤ 16777216 := by
  obtain ⟨h1, h2, h3, h4⟩ := h
  obtain ⟨n1, n2, n3, n4, n5⟩ := narrow_same ⟨hw, h3.2⟩ hs
  obtain ⟨m1, m2, m3, m4⟩ := unit_mul hw hs
  have hsum : w / s.Total * s.Low + widthI w s ≤ w := by
    unfold widthI
    split
    · omega
    · omega
  generalize w / s.Total * s.Low = u at *
  generalize widthI w s = v at *
  refine ⟨fun hc => ⟨h1, by omega, by omega, by omega⟩, fun hc => ?_, n4, m3, by omega⟩
  have hf : ∃ x ∈ o, x ≠ 255 := by
    have hpos := numR_pos (l := o.reverse) fun x hx => h1 x (by simpa using hx)
    obtain ⟨x, hx, hn⟩ := not_full (l := o.reverse) (k := 0) (by
      rw [List.length_reverse]
      generalize (256 : Int) ^ o.length = p at *
      omega)
    exact ⟨x, by simpa using hx, hn⟩
  refine ⟨hf, fun x hx => ?_, by omega, by omega, ?_⟩
  · unfold carryF at hx
    exact carryR_bytes (l := o.reverse) (fun x hx => h1 x (List.mem_reverse.1 hx)) x (List.mem_reverse.1 hx)
  · rw [carryF_len]
    unfold carryF
    rw [List.reverse_reverse, carryR_num (by obtain ⟨x, hx, hn⟩ := hf; exact ⟨x, by simpa using hx, hn⟩)]
    generalize (256 : Int) ^ o.length = p at *
    omega
theorem encStep_inv {o : List Int} {l w : Int} {s : SSlot} (h : EInv o l w) (hw : 65536 ≤ w) (hs : SlotOk s) (hl : o.length ≤ 90000) :
    EInv (encStep (o, l, w) s).1 (encStep (o, l, w) s).2.1 (encStep (o, l, w) s).2.2 ∧ 65536 ≤ (encStep (o, l, w) s).2.2 ∧ (encStep (o, l, w) s).1.length ≤ o.length + 2 := by
  obtain ⟨c1, c2, c3, c4, c5⟩ := carried h hw hs
  simp only [encStep]
  split
  · rename_i hc
    obtain ⟨_, c2⟩ := c2 hc
    obtain ⟨_, _, q3, q4, q5⟩ := emit_same (ls := []) (i1 := 0) (i2 := 0) (i3 := 0) 2 _ _ _ c2 (by simp only [Int.reducePow]; omega) (by rw [carryF_len]; omega)
    exact ⟨q3, q4, by rw [carryF_len] at q5; exact q5⟩
  · rename_i hc
    obtain ⟨_, _, q3, q4, q5⟩ := emit_same (ls := []) (i1 := 0) (i2 := 0) (i3 := 0) 2 _ _ _ (c1 (by omega)) (by simp only [Int.reducePow]; omega) (by omega)
    exact ⟨q3, q4, q5⟩
theorem enc_take {ls : List SSlot} {i : Nat} {s : SSlot} (h : ls[i]? = some s) : enc (ls.take (i + 1)) = encStep (enc (ls.take i)) s := by
  unfold enc
  rw [List.take_add_one, h]
  simp
theorem enc_inv {ls : List SSlot} (hs : ∀ s ∈ ls, SlotOk s) (hl : ls.length ≤ 40000) : ∀ i : Nat, EInv (enc (ls.take i)).1 (enc (ls.take i)).2.1 (enc (ls.take i)).2.2 ∧ 65536 ≤ (enc (ls.take i)).2.2 ∧ (enc (ls.take i)).1.length ≤ 2 * (min i ls.length)
  | 0 => by simp [enc, EInv, numR]
  | i + 1 => by
    obtain ⟨h1, h2, h3⟩ := enc_inv hs hl i
    rcases Nat.lt_or_ge i ls.length with h | h
    · obtain ⟨s, hx, hm⟩ := get_lt h
      rw [enc_take hx]
      generalize enc (ls.take i) = st at *
      obtain ⟨o, l, w⟩ := st
      have h3' : o.length ≤ 2 * min i ls.length := h3
      obtain ⟨q1, q2, q3⟩ := encStep_inv (o := o) (l := l) (w := w) h1 h2 (hs s hm) (by omega)
      exact ⟨q1, q2, by omega⟩
    · rw [List.take_of_length_le (by omega)] at h1 h2 h3 ⊢
      exact ⟨h1, h2, by omega⟩
theorem enc_loops {ls : List SSlot} (hs : ∀ s ∈ ls, SlotOk s) (hl : ls.length ≤ 40000) : loopO (spec_l3Encode_s5 ls) ([], 0, 16777216, 0) = some ((enc ls).1, (enc ls).2.1) ∧ loopO (impl_encode_s5 ls (ls.length : Int)) ([], 0, 16777216, 0) = some ((enc ls).1, (enc ls).2.1) := by
  obtain ⟨t, h1, h2, rfl⟩ := loop_same (step1 := impl_encode_s5 ls (ls.length : Int)) (step2 := spec_l3Encode_s5 ls) (fun i s => s = ((enc (ls.take i)).1, (enc (ls.take i)).2.1, (enc (ls.take i)).2.2, (i : Int)))
      (fun t => t = ((enc ls).1, (enc ls).2.1)) ls.length (by
    rintro i s hi rfl
    obtain ⟨g1, g2, g3⟩ := enc_inv hs hl i
    simp only [spec_l3Encode_s5, impl_encode_s5, decide_eq_true_eq]
    rcases Nat.lt_or_ge i ls.length with h | h
    · obtain ⟨s, hx, hm⟩ := get_lt h
      rw [enc_take hx]
      obtain ⟨c1, c2, c3, c4, c5⟩ := carried g1 g2 (hs s hm)
      obtain ⟨n1, n2, n3, n4, n5⟩ := narrow_same ⟨g2, g1.2.2.1.2⟩ (hs s hm)
      have ht : ¬ s.Total = 0 := by have := (hs s hm).1; omega
      have hlow := g1.2.1
      generalize enc (ls.take i) = st at *
      obtain ⟨o, l, w⟩ := st
      simp only [] at g1 g2 g3 c1 c2 c3 c4 c5 n1 n2 n3 n4 n5 hlow
      rw [if_pos (by omega), if_pos (by omega), getI_nat, hx]
      simp only [Option.bind_some]
      rw [if_neg ht, n3, n1, n2]
      simp only [Option.bind_some]
      rw [w64 (n := l + w / s.Total * s.Low) (by omega)]
      simp only [encStep]
      by_cases hc : l + w / s.Total * s.Low ≥ 16777216
      · obtain ⟨cf, c2⟩ := c2 hc
        obtain ⟨k1, k2⟩ := carry_same (l := o) (by omega) g1.1 cf
        rw [decide_eq_true hc]
        simp only [impl_encode_u3, spec_l3Encode_u3, if_true, k1, k2, Option.bind_some, carryF_len, if_pos hc]
        rw [w64 (n := l + w / s.Total * s.Low - 16777216) (by omega)]
        obtain ⟨q1, q2, q3, q4, q5⟩ := emit_same (ls := ls) (i1 := i) (i2 := ls.length) (i3 := i) 2 _ _ _ c2 (by simp only [Int.reducePow]; omega) (by rw [carryF_len]; omega)
        simp only [q1, q2, Option.bind_some]
        rw [w64 (n := (i : Int) + 1) (by omega)]
        exact ⟨by trivial, .inl ⟨h, _, rfl, by simp⟩⟩
      · rw [decide_eq_false hc]
        simp only [impl_encode_u3, spec_l3Encode_u3, Bool.false_eq_true, if_false, Option.bind_some, if_neg hc]
        obtain ⟨q1, q2, q3, q4, q5⟩ := emit_same (ls := ls) (i1 := i) (i2 := ls.length) (i3 := i) 2 _ _ _ (c1 (by omega)) (by simp only [Int.reducePow]; omega) (by omega)
        simp only [q1, q2, Option.bind_some]
        rw [w64 (n := (i : Int) + 1) (by omega)]
        exact ⟨by trivial, .inl ⟨h, _, rfl, by simp⟩⟩
    · obtain rfl : i = ls.length := by omega
      rw [if_neg (by omega), if_neg (by omega), List.take_length]
      exact ⟨rfl, .inr ⟨_, rfl, rfl⟩⟩) (s := ([], 0, 16777216, 0)) (by simp [enc])
  exact ⟨h2, h1⟩
/-- The bytes before zeros are cut. -/
def encRaw (ls : List SSlot) : List Int := (enc ls).1 ++ [(enc ls).2.1 / 65536, (enc ls).2.1 / 256 % 256, (enc ls).2.1 % 256]
def encBytes (ls : List SSlot) : List Int := (encRaw ls).take (trimN (encRaw ls) (encRaw ls).length)
theorem encode_same {ls : List SSlot} (hs : ∀ s ∈ ls, SlotOk s) (hl : ls.length ≤ 40000) : spec_l3Encode ls = some (encBytes ls) ∧ impl_encode ls = some (encBytes ls) ∧ (∀ x ∈ encBytes ls, 0 ≤ x ∧ x ≤ 255) ∧ (encBytes ls).length ≤ 100000 := by
  obtain ⟨h1, h2⟩ := enc_loops hs hl
  have gi := enc_inv hs hl ls.length
  rw [List.take_length] at gi
  obtain ⟨⟨g1, g2, g3, g4⟩, g5, g6⟩ := gi
  have e1 : IntKind.u8.wrap (IntKind.i64.wrap ((enc ls).2.1.tdiv 65536)) = (enc ls).2.1 / 65536 := by
    rw [Int.tdiv_eq_ediv_of_nonneg g2.1, w64 (by omega), wu8 (by omega)]
  have e2 : IntKind.u8.wrap ((IntKind.i64.wrap ((enc ls).2.1.tdiv 256)).tmod 256) = (enc ls).2.1 / 256 % 256 := by
    rw [Int.tdiv_eq_ediv_of_nonneg g2.1, w64 (by omega), Int.tmod_eq_emod_of_nonneg (by omega), wu8 (by omega)]
  have e3 : IntKind.u8.wrap ((enc ls).2.1.tmod 256) = (enc ls).2.1 % 256 := by
    rw [Int.tmod_eq_emod_of_nonneg g2.1, wu8 (by omega)]
  have f1 : IntKind.u8.wrap ((enc ls).2.1.fdiv (2 ^ (min 16 64))) = (enc ls).2.1 / 65536 := by
    rw [show min 16 64 = 16 by decide, fdiv_pow g2.1]
    generalize (enc ls).2.1 = l at *
    obtain ⟨n, rfl⟩ : ∃ n : Nat, l = n := ⟨l.toNat, by omega⟩
    rw [wu8 (by simp; omega)]; simp
  have u8m : ∀ n : Int, IntKind.u8.wrap n = n % 256 := fun n => by simp [IntKind.wrap, IntKind.bits, IntKind.signed]
  have f2 : IntKind.u8.wrap ((enc ls).2.1.fdiv (2 ^ (min 8 64))) = (enc ls).2.1 / 256 % 256 := by
    rw [show min 8 64 = 8 by decide, fdiv_pow g2.1, u8m]
    generalize (enc ls).2.1 = l at *
    obtain ⟨n, rfl⟩ : ∃ n : Nat, l = n := ⟨l.toNat, by omega⟩
    simp
  have f3 : IntKind.u8.wrap ((enc ls).2.1) = (enc ls).2.1 % 256 := u8m _
  have hlen : (encRaw ls).length ≤ 90000 := by simp [encRaw]; omega
  refine ⟨?_, ?_, fun x hx => ?_, ?_⟩
  · unfold spec_l3Encode
    rw [h1]
    simp only [Option.bind_some, e1, e2, e3]
    have he : (enc ls).1 ++ [(enc ls).2.1 / 65536, (enc ls).2.1 / 256 % 256, (enc ls).2.1 % 256] = encRaw ls := rfl
    rw [he, if_pos (okApp_of (by omega)), trim_spec (by omega) _ (by omega)]
    rfl
  · unfold impl_encode
    rw [h2]
    simp only [Option.bind_some, f1, f2, f3]
    have he : (enc ls).1 ++ [(enc ls).2.1 / 65536, (enc ls).2.1 / 256 % 256, (enc ls).2.1 % 256] = encRaw ls := rfl
    rw [he, if_pos (okApp_of (by omega)), trimRight_eq (by omega)]
    simp only [Option.bind_some]
    unfold slices_Clone_byte
    rw [if_pos (okApp_of (by rw [List.length_take]; omega))]
    rfl
  · have hx := List.mem_of_mem_take hx
    unfold encRaw at hx
    rcases List.mem_append.1 hx with hx | hx
    · exact g1 x hx
    · simp at hx; omega
  · unfold encBytes; rw [List.length_take]; omega
/-- n values, decoded one behind the other. -/
theorem decode_loops {d : List Int} (hb : ∀ x ∈ d, 0 ≤ x ∧ x ≤ 255) (hd : d.length ≤ 600) (n : Nat) (hn : n ≤ 64) {a r w : Int} (h0 : 0 ≤ a ∧ a ≤ 10) (hw : 65536 ≤ w ∧ w ≤ 16777216) (hr : 0 ≤ r ∧ r ≤ w - 1) :
    ∃ out, loopO (spec_l4Decode_s1 d) (a, r, w, d, [], (n : Int)) = some out ∧ loopO (impl_DecodeValues_s1 d (n : Int)) (a, r, w, d, [], 0) = some out ∧ out.length = n ∧ ∀ x ∈ out, -65536 ≤ x ∧ x ≤ 65535 := by
  have key : ∀ (m i : Nat), n - i = m → i ≤ n → ∀ (a r w : Int) (o : List Int), 0 ≤ a → a ≤ 10 + 6 * i → (65536 ≤ w ∧ w ≤ 16777216) → (0 ≤ r ∧ r ≤ w - 1) → o.length = i → (∀ x ∈ o, -65536 ≤ x ∧ x ≤ 65535) →
      ∃ out, loopO (spec_l4Decode_s1 d) (a, r, w, d, o, ((n - i : Nat) : Int)) = some out ∧ loopO (impl_DecodeValues_s1 d (n : Int)) (a, r, w, d, o, (i : Int)) = some out ∧ out.length = n ∧ ∀ x ∈ out, -65536 ≤ x ∧ x ≤ 65535 := by
    intro m
    induction m with
    | zero =>
      intro i hm hi a r w o h0 h1 hw hr ho hx
      obtain rfl : i = n := by omega
      rw [loopO_eq, loopO_eq (step := impl_DecodeValues_s1 _ _)]
      simp only [spec_l4Decode_s1, impl_DecodeValues_s1, decide_eq_true_eq]
      rw [if_neg (by omega), if_neg (by omega)]
      exact ⟨o, rfl, rfl, ho, hx⟩
    | succ m ih =>
      intro i hm hi a r w o h0 h1 hw hr ho hx
      have ha1 : a ≤ 10000 := by omega
      have ha2 : a ≤ 9000 := by omega
      obtain ⟨z, a', r', w', q1, q2, q3, q4, q5, q6, q7, q8⟩ := number_same (d := ⟨d, a, r, w⟩) ⟨hd, ⟨h0, ha1⟩, hw, hr⟩ hb ha2
      rw [loopO_eq, loopO_eq (step := impl_DecodeValues_s1 _ _)]
      simp only [spec_l4Decode_s1, impl_DecodeValues_s1, decide_eq_true_eq, q1, q2, Option.bind_some, unzig_same]
      have hok : okApp 8 (o ++ [spec_l4Unzig z]).length = true := okApp_of (by rw [List.length_append, List.length_singleton]; omega)
      simp only [hok, if_true]
      rw [if_pos (by omega), if_pos (by omega), w64 (n := (i : Int) + 1) (by omega), w64 (by omega)]
      simp only [] at q3 q4
      have hz : -65536 ≤ spec_l4Unzig z ∧ spec_l4Unzig z ≤ 65535 := by
        unfold spec_l4Unzig
        rw [Int.tmod_eq_emod_of_nonneg q7]
        split
        · rw [w64 (n := z + 1) (by omega), w64 (n := 0 - (z + 1)) (by omega)]
          have e : (0 - (z + 1)).tdiv 2 = -((z + 1) / 2) := by
            rw [show 0 - (z + 1) = -(z + 1) by omega, Int.neg_tdiv, Int.tdiv_eq_ediv_of_nonneg (by omega)]
          rw [e, w64 (by omega)]; omega
        · rw [Int.tdiv_eq_ediv_of_nonneg q7, w64 (by omega)]; omega
      obtain ⟨out, k1, k2, k3, k4⟩ := ih (i + 1) (by omega) (by omega) a' r' w' (o ++ [spec_l4Unzig z]) (by omega) (by omega) q5 q6 (by simp [ho]) (fun x hm => by
        rcases List.mem_append.1 hm with hm | hm
        · exact hx x hm
        · simp only [List.mem_singleton] at hm; subst hm; exact hz)
      refine ⟨out, ?_, ?_, k3, k4⟩
      · have e : ((n - i : Nat) : Int) - 1 = ((n - (i + 1) : Nat) : Int) := by omega
        rw [e]; exact k1
      · exact k2
  exact key n 0 (by omega) (by omega) a r w [] (by omega) (by omega) hw hr rfl (by simp)
noncomputable def slotsL : List Int → List SSlot
  | [] => []
  | v :: l => (spec_l4Slots v).getD [] ++ slotsL l
theorem slotsL_append : ∀ {l m : List Int}, slotsL (l ++ m) = slotsL l ++ slotsL m
  | [], m => rfl
  | v :: l, m => by simp [slotsL, slotsL_append (l := l) (m := m)]
theorem slotsL_ok : ∀ {l : List Int}, (∀ x ∈ l, -65535 ≤ x ∧ x ≤ 65535) → (slotsL l).length ≤ 3 * l.length ∧ ∀ s ∈ slotsL l, SlotOk s
  | [], _ => by simp [slotsL]
  | v :: l, h => by
    obtain ⟨s, h1, h2, h3, h4⟩ := slots_same (v := v) (h v (by simp))
    obtain ⟨q1, q2⟩ := slotsL_ok (l := l) fun x hx => h x (by simp [hx])
    simp only [slotsL, h1, Option.getD_some, List.length_append, List.length_cons]
    refine ⟨by omega, fun x hx => ?_⟩
    rcases List.mem_append.1 hx with hx | hx
    · exact h4 x hx
    · exact q2 x hx
theorem values_loops {l : List Int} (hl : l.length ≤ 64) (h : ∀ x ∈ l, -65535 ≤ x ∧ x ≤ 65535) : loopO (spec_l4Encode_s1 l) ([], 0) = some (slotsL l) ∧ loopO (impl_EncodeValues_s1 l (l.length : Int)) ([], 0) = some (.inl (slotsL l)) := by
  have step : ∀ i : Nat, i ≤ l.length → (i < l.length → ∃ v s, l[i]? = some v ∧ spec_l4Slots v = some s ∧ impl_slotsOf v = some s ∧ impl_isValue v = true ∧ slotsL (l.take (i + 1)) = slotsL (l.take i) ++ s ∧ okApp 24 (slotsL (l.take i) ++ s).length = true) := by
    intro i hi hh
    obtain ⟨v, hv, hm⟩ := get_lt hh
    obtain ⟨s, h1, h2, h3, h4⟩ := slots_same (v := v) (h v hm)
    have e : slotsL (l.take (i + 1)) = slotsL (l.take i) ++ s := by
      rw [List.take_add_one, hv]
      simp only [Option.toList_some]
      rw [slotsL_append]; simp [slotsL, h1]
    obtain ⟨g1, _⟩ := slotsL_ok (l := l.take i) fun x hx => h x (List.mem_of_mem_take hx)
    rw [List.length_take] at g1
    refine ⟨v, s, hv, h1, h2, ?_, e, okApp_of (by rw [List.length_append]; omega)⟩
    have := h v hm
    simp only [impl_isValue, impl_within, impl_inRange_eq]
    rw [w64 (by omega)]
    simp; omega
  constructor
  · obtain ⟨t, h1, rfl⟩ := loop_rule (step := spec_l4Encode_s1 l) (fun i s => s = (slotsL (l.take i), (i : Int))) (fun t => t = slotsL l) l.length (by
      rintro i s hi rfl
      simp only [spec_l4Encode_s1, decide_eq_true_eq]
      rcases Nat.lt_or_ge i l.length with hh | hh
      · obtain ⟨v, s, h1, h2, h3, h4, h5, h6⟩ := step i hi hh
        rw [if_pos (by omega), getI_nat, h1]
        simp only [Option.bind_some, h2]
        rw [if_pos h6, w64 (by omega), ← h5]
        exact .inl ⟨hh, _, rfl, by simp⟩
      · obtain rfl : i = l.length := by omega
        rw [if_neg (by omega), List.take_length]
        exact .inr ⟨_, rfl, rfl⟩) (s := ([], 0)) (by simp [slotsL])
    exact h1
  · obtain ⟨t, h1, rfl⟩ := loop_rule (step := impl_EncodeValues_s1 l (l.length : Int)) (fun i s => s = (slotsL (l.take i), (i : Int))) (fun t => t = .inl (slotsL l)) l.length (by
      rintro i s hi rfl
      simp only [impl_EncodeValues_s1, decide_eq_true_eq]
      rcases Nat.lt_or_ge i l.length with hh | hh
      · obtain ⟨v, s, h1, h2, h3, h4, h5, h6⟩ := step i hi hh
        rw [if_pos (by omega), getI_nat, h1]
        simp only [Option.bind_some, h3]
        rw [if_pos h4, if_pos h6, w64 (by omega), ← h5]
        exact .inl ⟨hh, _, rfl, by simp⟩
      · obtain rfl : i = l.length := by omega
        rw [if_neg (by omega), List.take_length]
        exact .inr ⟨_, rfl, rfl⟩) (s := ([], 0)) (by simp [slotsL])
    exact h1
theorem slotFault_ok {s : SSlot} (h : SlotOk s) : impl_SlotFault s = 0 := by
  obtain ⟨h1, h2, h3, h4⟩ := h
  unfold impl_SlotFault
  simp only [impl_SlotFault_u1, impl_inRange_eq, impl_codeIf_eq]
  rw [w64 (by omega)]
  have a1 : 1 ≤ s.Total ∧ s.Total ≤ 1024 := h1
  simp [a1, h2, h3, h4]
theorem encodeSlots_ok {ls : List SSlot} (hl : ls.length ≤ 400) (h : ∀ s ∈ ls, SlotOk s) : impl_EncodeSlots ls = some ⟨0, encBytes ls⟩ := by
  unfold impl_EncodeSlots
  simp only [decide_eq_true_eq]
  rw [if_neg (by omega)]
  obtain ⟨t, h1, rfl⟩ := loop_rule (step := impl_EncodeSlots_s1 ls (ls.length : Int)) (fun i s => s = (i : Int)) (fun t => t = .inl ()) ls.length (by
    rintro i s hi rfl
    simp only [impl_EncodeSlots_s1, decide_eq_true_eq]
    rcases Nat.lt_or_ge i ls.length with hh | hh
    · obtain ⟨v, hv, hm⟩ := get_lt hh
      rw [if_pos (by omega), getI_nat, hv]
      simp only [Option.bind_some, slotFault_ok (h v hm)]
      rw [if_neg (by decide), w64 (by omega)]
      exact .inl ⟨hh, _, rfl, by simp⟩
    · obtain rfl : i = ls.length := by omega
      rw [if_neg (by omega)]
      exact .inr ⟨_, rfl, rfl⟩) (s := 0) rfl
  rw [h1]
  obtain ⟨q1, q2, _⟩ := encode_same h (by omega)
  simp [q2]
theorem encodeValues_ok {l : List Int} (hl : l.length ≤ 64) (h : ∀ x ∈ l, -65535 ≤ x ∧ x ≤ 65535) : impl_EncodeValues l = some ⟨0, encBytes (slotsL l)⟩ ∧ spec_l4Encode l = some (encBytes (slotsL l)) := by
  obtain ⟨h1, h2⟩ := values_loops hl h
  obtain ⟨g1, g2⟩ := slotsL_ok h
  obtain ⟨q1, q2, _⟩ := encode_same g2 (by omega)
  constructor
  · unfold impl_EncodeValues
    simp only [decide_eq_true_eq]
    rw [if_neg (by omega), h2]
    simp [encodeSlots_ok (by omega) g2]
  · unfold spec_l4Encode
    rw [h1]
    simp [q1]
theorem encodeValues_bad : ∀ {l : List Int}, l.length ≤ 64 → (∃ x ∈ l, ¬ (-65535 ≤ x ∧ x ≤ 65535)) → (∀ x ∈ l, -65536 ≤ x ∧ x ≤ 65535) → impl_EncodeValues l = some ⟨3, []⟩ := by
  intro l hl hbad hx
  unfold impl_EncodeValues
  simp only [decide_eq_true_eq]
  rw [if_neg (by omega)]
  obtain ⟨t, h1, rfl⟩ := loop_rule (step := impl_EncodeValues_s1 l (l.length : Int)) (fun i s => (∀ j v, j < i → l[j]? = some v → -65535 ≤ v ∧ v ≤ 65535) ∧ s = (slotsL (l.take i), (i : Int))) (fun t => t = .inr ()) l.length (by
    rintro i s hi ⟨hj, rfl⟩
    simp only [impl_EncodeValues_s1, decide_eq_true_eq]
    rcases Nat.lt_or_ge i l.length with hh | hh
    · obtain ⟨v, hv, hm⟩ := get_lt hh
      rw [if_pos (by omega), getI_nat, hv]
      simp only [Option.bind_some]
      have hv2 := hx v hm
      have ev : impl_isValue v = decide (-65535 ≤ v ∧ v ≤ 65535) := by
        simp only [impl_isValue, impl_within, impl_inRange_eq]
        rw [w64 (by omega)]
        rfl
      rw [ev]
      by_cases hc : -65535 ≤ v ∧ v ≤ 65535
      · rw [if_pos (by simpa using hc)]
        obtain ⟨s, q1, q2, q3, q4⟩ := slots_same (v := v) hc
        obtain ⟨g1, _⟩ := slotsL_ok (l := l.take i) fun x hx => by
          obtain ⟨j, hj'⟩ := List.getElem?_of_mem hx
          have hji : j < i := by have := (List.getElem?_eq_some_iff.1 hj').1; rw [List.length_take] at this; omega
          rw [List.getElem?_take_of_lt hji] at hj'
          exact hj j x hji hj'
        rw [List.length_take] at g1
        rw [q2]
        simp only [Option.bind_some]
        rw [if_pos (okApp_of (by rw [List.length_append]; omega)), w64 (by omega)]
        refine .inl ⟨hh, _, rfl, fun j u hj' hu => ?_, ?_⟩
        · rcases Nat.lt_or_ge j i with hji | hji
          · exact hj j u hji hu
          · obtain rfl : j = i := by omega
            rw [hv] at hu; obtain rfl := Option.some.inj hu; exact hc
        · rw [List.take_add_one, hv]
          simp only [Option.toList_some]
          rw [slotsL_append]; simp [slotsL, q1]
      · rw [if_neg (by simpa using hc)]
        exact .inr ⟨_, rfl, rfl⟩
    · obtain rfl : i = l.length := by omega
      exfalso
      obtain ⟨x, hm, hn⟩ := hbad
      obtain ⟨j, hj'⟩ := List.getElem?_of_mem hm
      exact hn (hj j x (List.getElem?_eq_some_iff.1 hj').1 hj')) (s := ([], 0)) ⟨fun j v hj => by omega, by simp [slotsL]⟩
  rw [h1]
  rfl
theorem all_eq {l : List Int} (hl : l.length ≤ 64) : spec_l1All l (-65535) 65535 = some (decide (∀ x ∈ l, -65535 ≤ x ∧ x ≤ 65535)) := by
  unfold spec_l1All
  obtain ⟨t, h1, h2⟩ := loop_rule (step := spec_l1All_s1 l (-65535) 65535) (fun i s => (∀ j v, j < i → l[j]? = some v → -65535 ≤ v ∧ v ≤ 65535) ∧ s = (i : Int)) (fun t => (t = .inl () ∧ ∀ x ∈ l, -65535 ≤ x ∧ x ≤ 65535) ∨ (t = .inr () ∧ ¬ ∀ x ∈ l, -65535 ≤ x ∧ x ≤ 65535)) l.length (by
    rintro i s hi ⟨hj, rfl⟩
    simp only [spec_l1All_s1, decide_eq_true_eq, spec_l1In_eq]
    rcases Nat.lt_or_ge i l.length with hh | hh
    · obtain ⟨v, hv, hm⟩ := get_lt hh
      rw [if_pos (by omega), getI_nat, hv]
      simp only [Option.bind_some]
      by_cases hc : -65535 ≤ v ∧ v ≤ 65535
      · rw [if_pos hc, w64 (by omega)]
        refine .inl ⟨hh, _, rfl, fun j u hj' hu => ?_, by simp⟩
        rcases Nat.lt_or_ge j i with hji | hji
        · exact hj j u hji hu
        · obtain rfl : j = i := by omega
          rw [hv] at hu; obtain rfl := Option.some.inj hu; exact hc
      · rw [if_neg hc]
        exact .inr ⟨_, rfl, .inr ⟨rfl, fun h => hc (h v hm)⟩⟩
    · obtain rfl : i = l.length := by omega
      rw [if_neg (by omega)]
      refine .inr ⟨_, rfl, .inl ⟨rfl, fun x hm => ?_⟩⟩
      obtain ⟨j, hj'⟩ := List.getElem?_of_mem hm
      exact hj j x (List.getElem?_eq_some_iff.1 hj').1 hj') (s := 0) ⟨fun j v hj => by omega, rfl⟩
  rw [h1]
  rcases h2 with ⟨rfl, h⟩ | ⟨rfl, h⟩
  · rw [decide_eq_true h]; rfl
  · rw [decide_eq_false h]; rfl
theorem beq_bytes' {a b : List Int} (ha : ∀ x ∈ a, 0 ≤ x ∧ x ≤ 255) (hb : ∀ x ∈ b, 0 ≤ x ∧ x ≤ 255) : ((a.map fun n => UInt8.ofNat n.toNat) == (b.map fun n => UInt8.ofNat n.toNat)) = decide (a = b) := by
  rw [Bool.eq_iff_iff, beq_iff_eq, decide_eq_true_eq]
  exact ⟨fun h => bytes_inj ha hb h, fun h => by rw [h]⟩
theorem decodeValues_same {d : List Int} {n : Int} (hb : ∀ x ∈ d, 0 ≤ x ∧ x ≤ 255) (hd : (d.length : Int) ≤ maxI) : ∃ w, spec_DecodeValues d n = some w ∧ impl_DecodeValues d n = some w ∧ w.List_.length ≤ 64 ∧ (w.Code = 0 → impl_EncodeValues w.List_ = some ⟨0, d⟩ ∧ (w.List_.length : Int) = n) := by
  unfold maxI at hd
  unfold spec_DecodeValues impl_DecodeValues
  rw [impl_first_eq (by simp [maxI]), spec_l1In_eq, impl_inRange_eq]
  simp only [decide_eq_true_eq, Option.bind_some]
  by_cases h6 : (d.length : Int) > 600
  · rw [if_pos h6]
    simp [firstL, impl_codeIf_eq, h6]
  · rw [if_neg h6]
    by_cases hn : 0 ≤ n ∧ n ≤ 64
    · rw [if_pos hn]
      obtain ⟨N, rfl⟩ : ∃ N : Nat, n = N := ⟨n.toNat, by omega⟩
      simp only [firstL, impl_codeIf_eq, h6, hn, decide_false, decide_true, Bool.false_eq_true, if_false, Bool.not_true, ne_eq, not_true, bne_self_eq_false, and_self]
      obtain ⟨b0, b1⟩ := byteAt_ok (l := d) (a := 0) hb
      obtain ⟨c0, c1⟩ := byteAt_ok (l := d) (a := 1) hb
      obtain ⟨e0, e1⟩ := byteAt_ok (l := d) (a := 2) hb
      have cp : spec_l1Copy d = some d := by unfold spec_l1Copy; rw [if_pos (okApp_of (by omega))]
      have hst : ∃ r, spec_l3Start d = some ⟨d, 3, r, 16777216⟩ ∧ 0 ≤ r ∧ r ≤ 16777215 := by
        unfold spec_l3Start
        simp only [byte_spec hb (show (0 : Int) ≤ 0 by omega), byte_spec hb (show (0 : Int) ≤ 1 by omega), byte_spec hb (show (0 : Int) ≤ 2 by omega), cp, Option.bind_some]
        rw [w64 (n := byteAt d 0 * 65536) (by omega), w64 (n := byteAt d 1 * 256) (by omega), w64 (n := byteAt d 0 * 65536 + byteAt d 1 * 256) (by omega), w64 (by omega)]
        exact ⟨_, rfl, by omega, by omega⟩
      obtain ⟨r, hst, r0, r1⟩ := hst
      rw [start_same hb (by omega), hst]
      unfold spec_l4Decode
      rw [hst]
      simp only [Option.bind_some]
      obtain ⟨out, k1, k2, k3, k4⟩ := decode_loops hb (by omega) N (by omega) (a := 3) (r := r) (w := 16777216) (by omega) (by omega) (by omega)
      rw [k1, k2]
      simp only [Option.bind_some, spec_l4Decode_u2, all_eq (l := out) (by omega), decide_eq_true_eq, bytesI_eq]
      by_cases hv : ∀ x ∈ out, -65535 ≤ x ∧ x ≤ 65535
      · obtain ⟨v1, v2⟩ := encodeValues_ok (l := out) (by omega) hv
        obtain ⟨g1, g2⟩ := slotsL_ok hv
        obtain ⟨_, _, q3, q4⟩ := encode_same g2 (by omega)
        rw [if_pos hv, v2, v1]
        simp only [Option.bind_some, impl_DecodeValues_u2, bytes_Equal, bytesI_eq, beq_bytes' q3 hb, bne_self_eq_false, Bool.false_eq_true, if_false, decide_eq_true_eq]
        have cl : slices_Clone_int64 out = some out := by unfold slices_Clone_int64; rw [if_pos (okApp_of (by omega))]
        by_cases he : encBytes (slotsL out) = d
        · refine ⟨⟨0, out⟩, by simp [he], by simp [he, cl], by simp only []; omega, fun _ => ⟨?_, by simp only []; omega⟩⟩
          rw [v1, he]
        · simp [he]
      · rw [if_neg hv]
        have v1 := encodeValues_bad (l := out) (by omega) (by
          apply Classical.byContradiction
          intro hc
          exact hv fun x hx => Classical.byContradiction fun hc2 => hc ⟨x, hx, hc2⟩) k4
        rw [v1]
        simp [impl_DecodeValues_u2]
    · rw [if_neg hn]
      simp [firstL, impl_codeIf_eq, h6, hn]
theorem eq_any {l m : List Int} {step : Int → Option (Int ⊕ (Unit ⊕ Unit))} (h1 : ∀ (i : Nat) (x y : Int), l[i]? = some x → m[i]? = some y → step i = some (if (x == y) = true then .inl (IntKind.i64.wrap ((i : Int) + 1)) else .inr (.inr ())))
    (h2 : step (l.length : Int) = some (.inr (.inl ()))) (hl : (l.length : Int) ≤ maxI) :
    (if ((l.length : Int) != (m.length : Int)) = true then some false else (loopO step 0).bind fun t => (Sum.elim (fun _ => some true) (fun _ => some false)) t) = some (decide (l = m)) := by
  by_cases hlen : l.length = m.length
  · rw [if_neg (by simp [hlen]), same_loop (fun x y => x == y) hlen h1 h2 hl, allSame_eq hlen]
  · rw [if_pos (by simp; omega), decide_eq_false (fun e => hlen (by rw [e]))]
theorem value_impl {d : SDecoder} (h : DecOk d) {t : Int} (ht : 1 ≤ t ∧ t ≤ 1024) : impl_Decoder_value d t = some (valI d t) := by
  obtain ⟨_, _, h3, h4⟩ := h
  obtain ⟨u1, u2⟩ := unit_ge h3.1 ht
  unfold impl_Decoder_value valI
  rw [Int.tdiv_eq_ediv_of_nonneg (by omega)]
  generalize d.Range / t = u at *
  have n1 : ¬ t = 0 := by omega
  have n2 : ¬ u = 0 := by omega
  rw [w64 (n := u) (by omega)]
  simp only [n1, n2, if_false]
  rw [Int.tdiv_eq_ediv_of_nonneg h4.1]
  have e1 : 0 ≤ d.Rest / u := Int.ediv_nonneg h4.1 (by omega)
  have e2 : d.Rest / u ≤ d.Rest := Int.ediv_le_self _ h4.1
  generalize d.Rest / u = v at *
  rw [w64 (n := v) (by omega), w64 (n := t - 1) (by omega)]
  simp only [mnI, decide_eq_true_eq]
  by_cases c : v < t - 1
  · simp only [c, if_true]; rw [if_neg (by omega)]
  · simp only [c, if_false]
    split
    · rfl
    · congr 1; omega
/-- How many bytes go out. -/
def cnt : Nat → Int → Nat
  | 0, _ => 0
  | n + 1, w => if w < 65536 then cnt n (w * 256) + 1 else 0
def EN (o : List Int) (l : Int) : Int := numR o.reverse * 16777216 + l
theorem emit_num : ∀ (n : Nat) (o : List Int) (l w : Int), (emit n o l w).1.length = o.length + cnt n w ∧ EN (emit n o l w).1 (emit n o l w).2.1 = EN o l * 256 ^ cnt n w ∧ (emit n o l w).2.2 = w * 256 ^ cnt n w
  | 0, o, l, w => by simp [emit, cnt]
  | n + 1, o, l, w => by
    simp only [emit, cnt]
    by_cases h : w < 65536
    · simp only [h, if_true]
      obtain ⟨q1, q2, q3⟩ := emit_num n (o ++ [l / 65536]) (l % 65536 * 256) (w * 256)
      have e : EN (o ++ [l / 65536]) (l % 65536 * 256) = EN o l * 256 := by
        unfold EN; rw [numR_cons]; omega
      refine ⟨by rw [q1, List.length_append, List.length_singleton]; omega, ?_, ?_⟩
      · rw [q2, e, Int.pow_succ, Int.mul_assoc, Int.mul_comm 256]
      · rw [q3, Int.pow_succ, Int.mul_assoc, Int.mul_comm 256]
    · simp [h]
theorem encStep_num {o : List Int} {l w : Int} {s : SSlot} (h : EInv o l w) (hw : 65536 ≤ w) (hs : SlotOk s) :
    (encStep (o, l, w) s).1.length = o.length + cnt 2 (widthI w s) ∧ EN (encStep (o, l, w) s).1 (encStep (o, l, w) s).2.1 = (EN o l + w / s.Total * s.Low) * 256 ^ cnt 2 (widthI w s) ∧ (encStep (o, l, w) s).2.2 = widthI w s * 256 ^ cnt 2 (widthI w s) := by
  obtain ⟨c1, c2, c3, c4, c5⟩ := carried h hw hs
  simp only [encStep]
  split
  · rename_i hc
    obtain ⟨⟨x, hx, hn⟩, _⟩ := c2 hc
    obtain ⟨q1, q2, q3⟩ := emit_num 2 (carryF o) (l + w / s.Total * s.Low - 16777216) (widthI w s)
    refine ⟨by rw [q1, carryF_len], ?_, q3⟩
    rw [q2]
    congr 1
    unfold EN carryF
    rw [List.reverse_reverse, carryR_num ⟨x, by simpa using hx, hn⟩]
    omega
  · obtain ⟨q1, q2, q3⟩ := emit_num 2 o (l + w / s.Total * s.Low) (widthI w s)
    refine ⟨q1, ?_, q3⟩
    rw [q2]
    congr 1
    unfold EN; omega
theorem width_sum {w : Int} {s : SSlot} (hw : 65536 ≤ w) (hs : SlotOk s) : w / s.Total * s.Low + widthI w s ≤ w ∧ w * 64513 ≤ widthI w s * 67108864 := by
  obtain ⟨m1, m2, m3, m4⟩ := unit_mul hw hs
  have hu : w / s.Total ≤ widthI w s := by
    unfold widthI
    have hsz := hs.2.1
    have hul := unit_ge hw hs.1
    have h2 := Int.mul_le_mul_of_nonneg_left hsz.1 (show 0 ≤ w / s.Total by omega)
    rw [Int.mul_one] at h2
    split
    · omega
    · exact h2
  have hd : w - 1023 ≤ w / s.Total * 1024 := by
    have ht := hs.1
    have e := Int.emod_add_mul_ediv w s.Total
    have e2 := Int.emod_lt_of_pos w (show 0 < s.Total by omega)
    have e3 := Int.mul_le_mul_of_nonneg_right (show s.Total ≤ 1024 by omega) (show 0 ≤ w / s.Total by exact Int.ediv_nonneg (by omega) (by omega))
    have e4 : s.Total * (w / s.Total) ≤ w / s.Total * 1024 := by rw [Int.mul_comm (w / s.Total)]; exact e3
    have e5 := Int.emod_nonneg w (show s.Total ≠ 0 by omega)
    by_cases h1 : s.Total = 1024
    · rw [h1] at e e2 ⊢; omega
    · have e6 : (w / s.Total) * (s.Total + 1) ≤ w / s.Total * 1024 := Int.mul_le_mul_of_nonneg_left (by omega) (Int.ediv_nonneg (by omega) (by omega))
      rw [Int.mul_add, Int.mul_one] at e6
      rw [Int.mul_comm s.Total] at e
      have hul := unit_ge hw hs.1
      omega
  refine ⟨?_, by omega⟩
  unfold widthI
  split
  · omega
  · omega
theorem pow_pos256 {k : Nat} : (0 : Int) < 256 ^ k := Int.pow_pos (by decide)
/-- From one state of the encoder to a later one. -/
theorem nest {ls : List SSlot} (hs : ∀ s ∈ ls, SlotOk s) (hl : ls.length ≤ 40000) (i : Nat) : ∀ d : Nat, i + d ≤ ls.length → ∃ K, (enc (ls.take (i + d))).1.length = (enc (ls.take i)).1.length + K ∧
    EN (enc (ls.take i)).1 (enc (ls.take i)).2.1 * 256 ^ K ≤ EN (enc (ls.take (i + d))).1 (enc (ls.take (i + d))).2.1 ∧
    EN (enc (ls.take (i + d))).1 (enc (ls.take (i + d))).2.1 + (enc (ls.take (i + d))).2.2 ≤ (EN (enc (ls.take i)).1 (enc (ls.take i)).2.1 + (enc (ls.take i)).2.2) * 256 ^ K
  | 0, h => ⟨0, by simp⟩
  | d + 1, h => by
    obtain ⟨K, h1, h2, h3⟩ := nest hs hl i d (by omega)
    obtain ⟨g1, g2, g3⟩ := enc_inv hs hl (i + d)
    obtain ⟨s, hx, hm⟩ := get_lt (l := ls) (i := i + d) (by omega)
    rw [show i + (d + 1) = i + d + 1 by omega, enc_take hx]
    generalize enc (ls.take (i + d)) = st at *
    obtain ⟨o, l, w⟩ := st
    obtain ⟨q1, q2, q3⟩ := encStep_num (o := o) (l := l) (w := w) g1 g2 (hs s hm)
    obtain ⟨m1, m2, m3, m4⟩ := unit_mul g2 (hs s hm)
    obtain ⟨w1, _⟩ := width_sum g2 (hs s hm)
    simp only [] at h1 h2 h3 m3 w1
    have hp := pow_pos256 (k := cnt 2 (widthI w s))
    refine ⟨K + cnt 2 (widthI w s), by rw [q1, h1]; omega, ?_, ?_⟩
    · rw [q2, Int.pow_add, ← Int.mul_assoc]
      exact Int.mul_le_mul_of_nonneg_right (by omega) (by omega)
    · rw [q2, q3, ← Int.add_mul, Int.pow_add, ← Int.mul_assoc]
      exact Int.mul_le_mul_of_nonneg_right (by omega) (by omega)
/-- The first bytes as one number. -/
def pre (l : List Int) : Nat → Int
  | 0 => 0
  | m + 1 => pre l m * 256 + byteAt l (m : Int)
theorem pre_rev : ∀ (r c : List Int), pre (r.reverse ++ c) r.length = numR r
  | [], c => rfl
  | x :: r, c => by
    have h := pre_rev r (x :: c)
    have e : (x :: r).reverse ++ c = r.reverse ++ x :: c := by simp
    rw [e]
    simp only [List.length_cons, pre, numR, h]
    have hb : byteAt (r.reverse ++ x :: c) (r.length : Int) = x := by
      unfold byteAt; rw [Int.toNat_natCast]; simp
    rw [hb]; omega
theorem pre_all {l : List Int} : pre l l.length = numR l.reverse := by
  have := pre_rev l.reverse []
  simpa using this
theorem pre_bounds {l : List Int} (hb : ∀ x ∈ l, 0 ≤ x ∧ x ≤ 255) (m : Nat) : ∀ k : Nat, pre l m * 256 ^ k ≤ pre l (m + k) ∧ pre l (m + k) + 1 ≤ (pre l m + 1) * 256 ^ k
  | 0 => by simp
  | k + 1 => by
    obtain ⟨h1, h2⟩ := pre_bounds hb m k
    obtain ⟨b0, b1⟩ := byteAt_ok (l := l) (a := ((m + k : Nat) : Int)) hb
    rw [Int.pow_succ, ← Int.mul_assoc, ← Int.mul_assoc]
    show pre l m * 256 ^ k * 256 ≤ pre l (m + k) * 256 + byteAt l ((m + k : Nat) : Int) ∧ pre l (m + k) * 256 + byteAt l ((m + k : Nat) : Int) + 1 ≤ (pre l m + 1) * 256 ^ k * 256
    omega
theorem pre_nonneg {l : List Int} (hb : ∀ x ∈ l, 0 ≤ x ∧ x ≤ 255) : ∀ m : Nat, 0 ≤ pre l m
  | 0 => by simp [pre]
  | m + 1 => by
    have := pre_nonneg hb m
    obtain ⟨b0, b1⟩ := byteAt_ok (l := l) (a := (m : Int)) hb
    simp only [pre]; omega
theorem pre_congr {l m : List Int} (h : ∀ j : Nat, byteAt l (j : Int) = byteAt m (j : Int)) : ∀ k : Nat, pre l k = pre m k
  | 0 => rfl
  | k + 1 => by simp only [pre, pre_congr h k, h k]
theorem sandwich {A B p N P : Int} (hP : 0 < P) (h1 : A * P ≤ N) (h2 : N < B * P) (h3 : p * P ≤ N) (h4 : N + 1 ≤ (p + 1) * P) : A ≤ p ∧ p < B := by
  have a : A < p + 1 := Int.lt_of_mul_lt_mul_right (a := P) (by omega) (by omega)
  have b : p < B := Int.lt_of_mul_lt_mul_right (a := P) (by omega) (by omega)
  exact ⟨by omega, b⟩
theorem trimN_le {l : List Int} : ∀ k : Nat, trimN l k ≤ k
  | 0 => by simp [trimN]
  | k + 1 => by
    have := trimN_le (l := l) k
    simp only [trimN]
    split <;> omega
theorem trimN_zero {l : List Int} : ∀ k : Nat, ∀ m : Nat, trimN l k ≤ m → m < k → l[m]? = some 0
  | 0, m, h1, h2 => by omega
  | k + 1, m, h1, h2 => by
    simp only [trimN] at h1
    split at h1
    · rename_i h0
      rcases Nat.lt_or_ge m k with h | h
      · exact trimN_zero k m h1 h
      · obtain rfl : m = k := by omega
        exact h0
    · omega
theorem trimN_last {l : List Int} : ∀ k : Nat, 0 < trimN l k → l[trimN l k - 1]? ≠ some 0
  | 0, h => by simp [trimN] at h
  | k + 1, h => by
    simp only [trimN] at h ⊢
    split
    · rename_i h0
      rw [if_pos h0] at h
      exact trimN_last k h
    · rename_i h0
      simpa using h0
theorem byte_trim {l : List Int} (j : Nat) : byteAt (l.take (trimN l l.length)) (j : Int) = byteAt l (j : Int) := by
  unfold byteAt
  rw [Int.toNat_natCast]
  rcases Nat.lt_or_ge j (trimN l l.length) with h | h
  · rw [List.getElem?_take_of_lt h]
  · rw [List.getElem?_eq_none (by rw [List.length_take]; omega)]
    rcases Nat.lt_or_ge j l.length with h2 | h2
    · rw [trimN_zero _ _ h h2]; rfl
    · rw [List.getElem?_eq_none h2]
theorem raw_num {ls : List SSlot} (hs : ∀ s ∈ ls, SlotOk s) (hl : ls.length ≤ 40000) : (encRaw ls).length = (enc ls).1.length + 3 ∧ pre (encBytes ls) ((enc ls).1.length + 3) = EN (enc ls).1 (enc ls).2.1 ∧ ∀ x ∈ encRaw ls, 0 ≤ x ∧ x ≤ 255 := by
  obtain ⟨g1, g2, g3⟩ := enc_inv hs hl ls.length
  rw [List.take_length] at g1 g2 g3
  have hlen : (encRaw ls).length = (enc ls).1.length + 3 := by simp [encRaw]
  refine ⟨hlen, ?_, fun x hx => ?_⟩
  · have e : pre (encBytes ls) ((enc ls).1.length + 3) = pre (encRaw ls) ((enc ls).1.length + 3) := pre_congr (fun j => byte_trim j) _
    rw [e, ← hlen, pre_all]
    have hlo := g1.2.1
    unfold encRaw EN
    simp only [List.reverse_append, List.reverse_cons, List.reverse_nil, List.nil_append, List.cons_append, numR]
    omega
  · unfold encRaw at hx
    have hlo := g1.2.1
    rcases List.mem_append.1 hx with hx | hx
    · exact g1.1 x hx
    · simp at hx; omega
theorem turn_exact {l : List Int} (hb : ∀ x ∈ l, 0 ≤ x ∧ x ≤ 255) : ∀ (n a : Nat) (w M : Int), 65536 ≤ w * 256 ^ n → 0 < w → w ≤ 16777216 → 0 ≤ pre l a - M → pre l a - M < w → a + n ≤ 100000 →
    loopO impl_Decoder_take_o_s2 (l, (a : Int), pre l a - M, w) = some (l, ((a + cnt n w : Nat) : Int), pre l (a + cnt n w) - M * 256 ^ cnt n w, w * 256 ^ cnt n w)
  | 0, a, w, M, h1, h2, h3, h4, h5, h6 => by
    have h1' : 65536 ≤ w := by simpa using h1
    rw [loopO_eq, impl_Decoder_take_o_s2]; simp only [decide_eq_true_eq]; rw [if_neg (by omega)]
    simp [cnt]
  | n + 1, a, w, M, h1, h2, h3, h4, h5, h6 => by
    by_cases hw : w < 65536
    · obtain ⟨b0, b1⟩ := byteAt_ok (l := l) (a := (a : Int)) hb
      have e : (pre l a - M) * 256 + byteAt l (a : Int) = pre l (a + 1) - M * 256 := by simp only [pre]; omega
      have ih := turn_exact hb n (a + 1) (w * 256) (M * 256) (by rw [Int.pow_succ, Int.mul_comm (256 ^ n) 256, ← Int.mul_assoc] at h1; exact h1) (by omega) (by omega) (by omega) (by omega) (by omega)
      rw [loopO_eq, impl_Decoder_take_o_s2]
      simp only [decide_eq_true_eq, impl_Decoder_take_o_u1]
      rw [if_pos hw, next_impl (d := ⟨l, (a : Int), pre l a - M, w⟩) hb ⟨by simp only []; omega, by simp only []; omega⟩, w64 (n := (pre l a - M) * 256) (by omega), w64 (n := w * 256) (by omega)]
      simp only [Option.bind_some]
      rw [w64 (by omega), e]
      have e2 : ((a : Int) + 1) = ((a + 1 : Nat) : Int) := by omega
      rw [e2, ih]
      simp only [cnt, hw, if_true]
      have e3 : a + 1 + cnt n (w * 256) = a + (cnt n (w * 256) + 1) := by omega
      rw [e3, Int.pow_succ, Int.mul_assoc, Int.mul_assoc, Int.mul_comm 256 (256 ^ _)]
    · rw [loopO_eq, impl_Decoder_take_o_s2]; simp only [decide_eq_true_eq]; rw [if_neg (by omega)]
      simp [cnt, hw]
/-- What the decoder holds behind i slots. -/
def decAt (ls : List SSlot) (i : Nat) : SDecoder := ⟨encBytes ls, (((enc (ls.take i)).1.length + 3 : Nat) : Int), pre (encBytes ls) ((enc (ls.take i)).1.length + 3) - EN (enc (ls.take i)).1 (enc (ls.take i)).2.1, (enc (ls.take i)).2.2⟩
theorem bytes_ok {ls : List SSlot} (hs : ∀ s ∈ ls, SlotOk s) (hl : ls.length ≤ 40000) : ∀ x ∈ encBytes ls, 0 ≤ x ∧ x ≤ 255 := fun x hx => (raw_num hs hl).2.2 x (List.mem_of_mem_take hx)
theorem dec_bounds {ls : List SSlot} (hs : ∀ s ∈ ls, SlotOk s) (hl : ls.length ≤ 40000) {i : Nat} (hi : i ≤ ls.length) :
    0 ≤ (decAt ls i).Rest ∧ (decAt ls i).Rest < (decAt ls i).Range := by
  obtain ⟨K, h1, h2, h3⟩ := nest hs hl i (ls.length - i) (by omega)
  rw [show i + (ls.length - i) = ls.length by omega, List.take_length] at h1 h2 h3
  obtain ⟨r1, r2, r3⟩ := raw_num hs hl
  obtain ⟨g1, g2, _⟩ := enc_inv hs hl ls.length
  rw [List.take_length] at g1 g2
  obtain ⟨p1, p2⟩ := pre_bounds (bytes_ok hs hl) ((enc (ls.take i)).1.length + 3) K
  rw [show (enc (ls.take i)).1.length + 3 + K = (enc ls).1.length + 3 by omega, r2] at p1 p2
  obtain ⟨a, b⟩ := sandwich (pow_pos256 (k := K)) h2 (Int.lt_of_lt_of_le (by omega) h3) p1 p2
  simp only [decAt]; omega
/-- One slot: it is told, and taken. -/
theorem dec_step {ls : List SSlot} (hs : ∀ s ∈ ls, SlotOk s) (hl : ls.length ≤ 400) (hd : (encBytes ls).length ≤ 600) {i : Nat} {s : SSlot} (hx : ls[i]? = some s) :
    DecOk (decAt ls i) ∧ (decAt ls i).At ≤ 9000 ∧ s.Low ≤ valI (decAt ls i) s.Total ∧ valI (decAt ls i) s.Total ≤ s.Low + s.Size - 1 ∧ impl_Decoder_take_o (decAt ls i) s = some ((decAt ls (i + 1)).Data, (decAt ls (i + 1)).At, (decAt ls (i + 1)).Rest, (decAt ls (i + 1)).Range) := by
  have hi : i < ls.length := (List.getElem?_eq_some_iff.1 hx).1
  have hso := hs s (List.mem_of_getElem? hx)
  obtain ⟨g1, g2, g3⟩ := enc_inv hs (by omega) i
  obtain ⟨b1, b2⟩ := dec_bounds hs (by omega) (i := i) (by omega)
  have hr : (decAt ls i).Range = (enc (ls.take i)).2.2 := rfl
  have hok : DecOk (decAt ls i) := ⟨hd, ⟨Int.natCast_nonneg _, by show (((enc (ls.take i)).1.length + 3 : Nat) : Int) ≤ 10000; omega⟩, ⟨g2, g1.2.2.1.2⟩, by omega⟩
  -- what the next state says
  have key : (enc (ls.take i)).2.2 / s.Total * s.Low ≤ (decAt ls i).Rest ∧ (decAt ls i).Rest < (enc (ls.take i)).2.2 / s.Total * s.Low + widthI (enc (ls.take i)).2.2 s := by
    obtain ⟨K, h1, h2, h3⟩ := nest hs (by omega) (i + 1) (ls.length - (i + 1)) (by omega)
    rw [show i + 1 + (ls.length - (i + 1)) = ls.length by omega, List.take_length] at h1 h2 h3
    rw [enc_take hx] at h1 h2 h3
    obtain ⟨r1, r2, r3⟩ := raw_num hs (by omega)
    obtain ⟨_, gn, _⟩ := enc_inv hs (by omega) ls.length
    rw [List.take_length] at gn
    obtain ⟨p1, p2⟩ := pre_bounds (bytes_ok hs (by omega)) ((enc (ls.take i)).1.length + 3) (cnt 2 (widthI (enc (ls.take i)).2.2 s) + K)
    simp only [decAt]
    generalize enc (ls.take i) = st at *
    obtain ⟨o, l, w⟩ := st
    obtain ⟨q1, q2, q3⟩ := encStep_num (o := o) (l := l) (w := w) g1 g2 hso
    rw [q1] at h1
    rw [q2, Int.mul_assoc, ← Int.pow_add] at h2
    rw [q2, q3, ← Int.add_mul, Int.mul_assoc, ← Int.pow_add] at h3
    simp only [] at p1 p2
    rw [show o.length + 3 + (cnt 2 (widthI w s) + K) = (enc ls).1.length + 3 by omega, r2] at p1 p2
    obtain ⟨a, b⟩ := sandwich (pow_pos256 (k := cnt 2 (widthI w s) + K)) h2 (Int.lt_of_lt_of_le (by omega) h3) p1 p2
    simp only []
    omega
  obtain ⟨k1, k2⟩ := key
  obtain ⟨n1, n2, n3, n4, n5⟩ := narrow_same ⟨g2, g1.2.2.1.2⟩ hso
  obtain ⟨m1, m2, m3, m4⟩ := unit_mul g2 hso
  obtain ⟨u1, u2⟩ := unit_ge g2 hso.1
  refine ⟨hok, by show (((enc (ls.take i)).1.length + 3 : Nat) : Int) ≤ 9000; omega, ?_, ?_, ?_⟩
  · unfold valI
    rw [hr]
    have q : s.Low ≤ (decAt ls i).Rest / ((enc (ls.take i)).2.2 / s.Total) := Int.le_ediv_of_mul_le (by omega) (by rw [Int.mul_comm]; exact k1)
    have := hso.2.2
    split
    · exact q
    · have := hso.2.1; omega
  · unfold valI
    rw [hr]
    by_cases c : s.Low + s.Size = s.Total
    · split <;> omega
    · have q : (decAt ls i).Rest / ((enc (ls.take i)).2.2 / s.Total) < s.Low + s.Size := by
        apply Int.ediv_lt_of_lt_mul (by omega)
        unfold widthI at k2
        rw [if_neg c] at k2
        rw [Int.mul_comm]; omega
      have := hso.2.2
      split <;> omega
  · unfold impl_Decoder_take_o
    rw [hr, n2]
    simp only [Option.bind_some]
    have e1 : IntKind.i64.wrap ((decAt ls i).Rest - (enc (ls.take i)).2.2 / s.Total * s.Low) = pre (encBytes ls) ((enc (ls.take i)).1.length + 3) - (EN (enc (ls.take i)).1 (enc (ls.take i)).2.1 + (enc (ls.take i)).2.2 / s.Total * s.Low) := by
      rw [w64 (by omega)]; simp only [decAt]; omega
    have k1' : 0 ≤ pre (encBytes ls) ((enc (ls.take i)).1.length + 3) - (EN (enc (ls.take i)).1 (enc (ls.take i)).2.1 + (enc (ls.take i)).2.2 / s.Total * s.Low) := by
      simp only [decAt] at k1; omega
    have k2' : pre (encBytes ls) ((enc (ls.take i)).1.length + 3) - (EN (enc (ls.take i)).1 (enc (ls.take i)).2.1 + (enc (ls.take i)).2.2 / s.Total * s.Low) < widthI (enc (ls.take i)).2.2 s := by
      simp only [decAt] at k2; omega
    rw [e1]
    have t := turn_exact (bytes_ok hs (by omega)) 2 ((enc (ls.take i)).1.length + 3) (widthI (enc (ls.take i)).2.2 s) _ (by simp only [Int.reducePow]; omega) (by omega) n5 k1' k2' (by omega)
    rw [show (decAt ls i).Data = encBytes ls from rfl, show (decAt ls i).At = (((enc (ls.take i)).1.length + 3 : Nat) : Int) from rfl, t]
    simp only [Option.bind_some, decAt]
    rw [enc_take hx]
    generalize enc (ls.take i) = st at *
    obtain ⟨o, l, w⟩ := st
    obtain ⟨q1, q2, q3⟩ := encStep_num (o := o) (l := l) (w := w) g1 g2 hso
    rw [q1, q2, q3]
    simp only [show o.length + 3 + cnt 2 (widthI w s) = o.length + cnt 2 (widthI w s) + 3 by omega]
/-- How long the bytes are. -/
theorem potential {ls : List SSlot} (hs : ∀ s ∈ ls, SlotOk s) (hl : ls.length ≤ 40000) : ∀ i : Nat, i ≤ ls.length → 16777216 * 64513 ^ i * 256 ^ (enc (ls.take i)).1.length ≤ (enc (ls.take i)).2.2 * 67108864 ^ i
  | 0, _ => by simp [enc]
  | i + 1, h => by
    have ih := potential hs hl i (by omega)
    obtain ⟨g1, g2, g3⟩ := enc_inv hs hl i
    obtain ⟨s, hx, hm⟩ := get_lt (l := ls) (i := i) (by omega)
    rw [enc_take hx]
    generalize enc (ls.take i) = st at *
    obtain ⟨o, l, w⟩ := st
    obtain ⟨q1, q2, q3⟩ := encStep_num (o := o) (l := l) (w := w) g1 g2 (hs s hm)
    obtain ⟨_, w2⟩ := width_sum g2 (hs s hm)
    have p1 : (256 : Int) ^ (o.length + cnt 2 (widthI w s)) = 256 ^ o.length * 256 ^ cnt 2 (widthI w s) := Int.pow_add _ _ _
    have p2 : (64513 : Int) ^ (i + 1) = 64513 ^ i * 64513 := Int.pow_succ _ _
    have p3 : (67108864 : Int) ^ (i + 1) = 67108864 ^ i * 67108864 := Int.pow_succ _ _
    rw [q1, q3, p1, p2, p3]
    simp only [] at ih w2
    clear p1 p2 p3 q1 q2 q3
    have hc := pow_pos256 (k := cnt 2 (widthI w s))
    have hP : (0 : Int) ≤ 67108864 ^ i := Int.le_of_lt (Int.pow_pos (by decide))
    generalize (256 : Int) ^ cnt 2 (widthI w s) = c at *
    generalize (256 : Int) ^ o.length = C at *
    generalize (67108864 : Int) ^ i = P at *
    generalize (64513 : Int) ^ i = Q at *
    have a1 := Int.mul_le_mul_of_nonneg_right ih (show 0 ≤ 64513 * c by omega)
    have a2 := Int.mul_le_mul_of_nonneg_right w2 (show 0 ≤ P * c from Int.mul_nonneg hP (by omega))
    have e1 : 16777216 * (Q * 64513) * (C * c) = 16777216 * Q * C * (64513 * c) := by simp only [Int.mul_assoc, Int.mul_left_comm, Int.mul_comm]
    have e2 : w * P * (64513 * c) = w * 64513 * (P * c) := by simp only [Int.mul_assoc, Int.mul_left_comm, Int.mul_comm]
    have e3 : widthI w s * 67108864 * (P * c) = widthI w s * c * (P * 67108864) := by simp only [Int.mul_assoc, Int.mul_left_comm, Int.mul_comm]
    rw [e1, ← e3]
    rw [e2] at a1
    exact Int.le_trans a1 a2
theorem bytes_short {ls : List SSlot} (hs : ∀ s ∈ ls, SlotOk s) (hl : ls.length ≤ 400) : (encBytes ls).length ≤ 600 := by
  have hp := potential hs (by omega) ls.length (Nat.le_refl _)
  obtain ⟨g1, g2, _⟩ := enc_inv hs (by omega) ls.length
  rw [List.take_length] at hp g1 g2
  have h1 := (raw_num hs (by omega)).1
  have hle : (encBytes ls).length ≤ (enc ls).1.length + 3 := by unfold encBytes; rw [List.length_take]; omega
  apply Nat.le_trans hle
  apply Classical.byContradiction
  intro hc
  have hw := g1.2.2.1.2
  have hlen : ls.length + (400 - ls.length) = 400 := by omega
  generalize (enc ls).1.length = k at *
  generalize (enc ls).2.2 = w at *
  have hP : (0 : Int) < 67108864 ^ ls.length := Int.pow_pos (by decide)
  have a1 := Int.mul_le_mul_of_nonneg_right hw (Int.le_of_lt hP)
  have a2 : (64513 : Int) ^ ls.length * 256 ^ k ≤ 67108864 ^ ls.length := by
    have e : 16777216 * (64513 : Int) ^ ls.length * 256 ^ k = 16777216 * (64513 ^ ls.length * 256 ^ k) := Int.mul_assoc _ _ _
    rw [e] at hp; omega
  have n2 : 64513 ^ ls.length * 256 ^ k ≤ 67108864 ^ ls.length := Int.ofNat_le.1 (by rw [Int.natCast_mul, Int.natCast_pow, Int.natCast_pow, Int.natCast_pow]; exact a2)
  obtain ⟨e, he⟩ : ∃ e : Nat, e = 598 := ⟨_, rfl⟩
  have hk : e ≤ k := by omega
  have n3 : 256 ^ e ≤ 256 ^ k := Nat.pow_le_pow_right (by decide) hk
  have n4 : 64513 ^ ls.length * 256 ^ e ≤ 67108864 ^ ls.length := Nat.le_trans (Nat.mul_le_mul_left _ n3) n2
  have n5 : 64513 ^ (400 - ls.length) ≤ 67108864 ^ (400 - ls.length) := Nat.pow_le_pow_left (by decide) _
  have n6 := Nat.mul_le_mul n4 n5
  have e1 : 64513 ^ ls.length * 256 ^ e * 64513 ^ (400 - ls.length) = 64513 ^ 400 * 256 ^ e := by
    rw [Nat.mul_right_comm, ← Nat.pow_add, hlen]
  rw [e1, ← Nat.pow_add, hlen] at n6
  subst he
  exact absurd n6 (by decide +kernel)
theorem start_impl {l : List Int} (hb : ∀ x ∈ l, 0 ≤ x ∧ x ≤ 255) (hl : l.length ≤ 600) : impl_start l = some ⟨l, 3, pre l 3, 16777216⟩ := by
  unfold impl_start
  have cl : slices_Clone_byte l = some l := by unfold slices_Clone_byte; rw [if_pos (okApp_of (by omega))]
  obtain ⟨a0, a1⟩ := byteAt_ok (l := l) (a := 0) hb
  obtain ⟨b0, b1⟩ := byteAt_ok (l := l) (a := 1) hb
  obtain ⟨c0, c1⟩ := byteAt_ok (l := l) (a := 2) hb
  have st : ∀ (a r k : Int), 0 ≤ a → a ≤ 10 → 0 ≤ r → r ≤ 65536 → 0 ≤ k → k < 3 → impl_start_s3 (a, r, l, k) = some (.inl (a + 1, r * 256 + byteAt l a, l, k + 1)) := fun a r k h1 h2 h3 h4 h5 h6 => by
    obtain ⟨q0, q1⟩ := byteAt_ok (l := l) (a := a) hb
    simp only [impl_start_s3, decide_eq_true_eq]
    rw [if_pos h6]
    unfold impl_start_u2
    rw [next_impl (d := ⟨l, a, r, 16777216⟩) hb ⟨h1, by simp only []; omega⟩]
    simp only [Option.bind_some]
    rw [w64 (n := r * 256) (by omega), w64 (n := r * 256 + byteAt l a) (by omega), w64 (by omega)]
  have fin : ∀ (a r : Int), impl_start_s3 (a, r, l, 3) = some (.inr (a, r, l)) := fun a r => by
    simp only [impl_start_s3]; rw [if_neg (by decide)]
  simp only [cl, Option.bind_some]
  rw [loopO_eq, st 0 0 0 (by omega) (by omega) (by omega) (by omega) (by omega) (by omega)]
  simp only []
  rw [loopO_eq, st _ _ _ (by omega) (by omega) (by omega) (by omega) (by omega) (by omega)]
  simp only []
  rw [loopO_eq, st _ _ _ (by omega) (by omega) (by simp only [Int.zero_add]; omega) (by simp only [Int.zero_add]; omega) (by omega) (by omega)]
  simp only [Int.zero_add, Int.reduceAdd, Int.zero_mul]
  rw [loopO_eq, fin]
  simp only [Option.bind_some, pre]
  simp
theorem decAt_zero {ls : List SSlot} (hs : ∀ s ∈ ls, SlotOk s) (hl : ls.length ≤ 40000) (hd : (encBytes ls).length ≤ 600) : impl_start (encBytes ls) = some (decAt ls 0) := by
  rw [start_impl (bytes_ok hs hl) hd]
  simp [decAt, enc, EN, numR]
theorem tmod_nn {a b : Int} (ha : 0 ≤ a) (hb : 0 < b) : 0 ≤ a.tmod b ∧ a.tmod b < b := by
  rw [Int.tmod_eq_emod_of_nonneg ha]
  exact ⟨Int.emod_nonneg _ (by omega), Int.emod_lt_of_pos _ hb⟩
def SrcOk (c : List Int) (s : Sl1Src) (k : Int) : Prop := s.Code = c ∧ 0 ≤ s.At ∧ s.At ≤ k
theorem get_mod {c : List Int} {a : Int} (hc : ∀ x ∈ c, 0 ≤ x ∧ x ≤ 255) (ha : 0 ≤ a) (hn : 0 < c.length) : ∃ x, getI c (a.tmod (c.length : Int)) = some x ∧ 0 ≤ x ∧ x ≤ 255 := by
  obtain ⟨h1, h2⟩ := tmod_nn ha (b := (c.length : Int)) (by omega)
  obtain ⟨x, hx, hm⟩ := get_lt (l := c) (i := (a.tmod (c.length : Int)).toNat) (by omega)
  exact ⟨x, by unfold getI; rw [if_pos h1, hx], hc x hm⟩
theorem next_ok {c : List Int} {s : Sl1Src} {k p : Int} (hc : ∀ x ∈ c, 0 ≤ x ∧ x ≤ 255) (hl : (c.length : Int) ≤ 2000000) (hs : SrcOk c s k) (hk : k ≤ 1000000) (hp : 1 ≤ p ∧ p ≤ 100000000) :
    ∃ r, spec_l1Next s p = some (r, ⟨c, s.At + 1⟩) ∧ 0 ≤ r ∧ r < p := by
  obtain ⟨rfl, h0, h1⟩ := hs
  have e1 : IntKind.i64.wrap (s.At + 1) = s.At + 1 := w64 (by omega)
  have e2 : IntKind.i64.wrap (s.At + 1 - 1) = s.At := by rw [w64 (by omega)]; omega
  unfold spec_l1Next
  rw [if_neg (by simp; omega)]
  simp only [e1, e2]
  rcases Nat.eq_zero_or_pos s.Code.length with hz | hz
  · rw [if_pos (by simp [hz]), if_neg (by omega), w64 (by omega)]
    obtain ⟨q1, q2⟩ := tmod_nn (a := s.At * 7) (b := p) (by omega) (by omega)
    exact ⟨_, rfl, q1, q2⟩
  · have hne : ¬ (s.Code.length : Int) = 0 := by omega
    rw [if_neg (by simp; intro h; rw [h] at hz; simp at hz)]
    simp only [hne, if_false]
    obtain ⟨x, hx, hx0, hx1⟩ := get_mod hc h0 hz
    rw [hx]
    simp only [Option.bind_some]
    have hd : 0 ≤ s.At.tdiv (s.Code.length : Int) ∧ s.At.tdiv (s.Code.length : Int) ≤ s.At := by
      rw [Int.tdiv_eq_ediv_of_nonneg h0]
      exact ⟨Int.ediv_nonneg h0 (by omega), Int.ediv_le_self _ h0⟩
    generalize s.At.tdiv (s.Code.length : Int) = d at hd
    rw [w64 (n := x) (by omega), w64 (n := d) (by omega), w64 (n := d * 37) (by omega), w64 (n := x + d * 37) (by omega)]
    have u1 : ∃ v, spec_l1Next_u1 s.Code (s.At + 1) p s.At (s.Code.length : Int) (x + d * 37) (decide (p > 200)) = some v ∧ 0 ≤ v ∧ v ≤ 10000000000 := by
      unfold spec_l1Next_u1
      split
      · rw [w64 (n := s.At + 1) (by omega)]
        obtain ⟨y, hy, hy0, hy1⟩ := get_mod (a := s.At + 1) hc (by omega) hz
        rw [hy]
        simp only [Option.bind_some]
        rw [w64 (n := y) (by omega), w64 (n := y * 13) (by omega), w64 (n := (x + d * 37) * 251) (by omega), w64 (n := (x + d * 37) * 251 + y * 13) (by omega), w64 (n := (x + d * 37) * 251 + y * 13 + s.At) (by omega)]
        exact ⟨_, rfl, by omega, by omega⟩
      · exact ⟨_, rfl, by omega, by omega⟩
    obtain ⟨v, hv, hv0, hv1⟩ := u1
    rw [hv]
    simp only [Option.bind_some]
    have u2 : ∃ v', spec_l1Next_u2 s.Code (s.At + 1) p s.At (s.Code.length : Int) v (decide (p > 60000)) = some v' ∧ 0 ≤ v' := by
      unfold spec_l1Next_u2
      split
      · rw [w64 (n := s.At + 2) (by omega)]
        obtain ⟨y, hy, hy0, hy1⟩ := get_mod (a := s.At + 2) hc (by omega) hz
        rw [hy]
        simp only [Option.bind_some]
        rw [w64 (n := y) (by omega), w64 (n := v * 257) (by omega), w64 (n := v * 257 + y) (by omega)]
        exact ⟨_, rfl, by omega⟩
      · exact ⟨_, rfl, hv0⟩
    obtain ⟨v', hv', hv'0⟩ := u2
    rw [hv']
    simp only [Option.bind_some]
    rw [if_neg (by omega)]
    obtain ⟨q1, q2⟩ := tmod_nn (a := v') (b := p) hv'0 (by omega)
    exact ⟨_, rfl, q1, q2⟩
theorem pick_ok {c : List Int} {s : Sl1Src} {k : Int} {l : List Int} (hc : ∀ x ∈ c, 0 ≤ x ∧ x ≤ 255) (hl : (c.length : Int) ≤ 2000000) (hs : SrcOk c s k) (hk : k ≤ 1000000) (hn : 0 < l.length ∧ l.length ≤ 1000000) :
    ∃ r s', spec_l1Pick s l = some (r, s') ∧ r ∈ l ∧ SrcOk c s' (k + 1) := by
  unfold spec_l1Pick
  obtain ⟨r, h1, h2, h3⟩ := next_ok (p := (l.length : Int)) hc hl hs hk (by omega)
  obtain ⟨x, hx, hm⟩ := get_lt (l := l) (i := r.toNat) (by omega)
  rw [h1]
  obtain ⟨_, a1, a2⟩ := hs
  refine ⟨x, ⟨c, s.At + 1⟩, ?_, hm, rfl, by (first | omega | (simp only []; omega)), by (first | omega | (simp only []; omega))⟩
  simp only [Option.bind_some]
  unfold getI
  rw [if_pos h2, hx]; rfl
theorem source_ok {c : List Int} : SrcOk c (spec_l1Source c) 0 := by unfold SrcOk spec_l1Source; simp
theorem next_ok2 {c : List Int} {s : Sl1Src} {k p : Int} (hc : ∀ x ∈ c, 0 ≤ x ∧ x ≤ 255) (hl : (c.length : Int) ≤ 2000000) (hs : SrcOk c s k) (hk : k ≤ 1000000) (hp : 1 ≤ p ∧ p ≤ 100000000) :
    ∃ r s', spec_l1Next s p = some (r, s') ∧ 0 ≤ r ∧ r < p ∧ SrcOk c s' (k + 1) := by
  obtain ⟨r, h1, h2, h3⟩ := next_ok hc hl hs hk hp
  obtain ⟨_, a1, a2⟩ := hs
  exact ⟨r, _, h1, h2, h3, rfl, by (first | omega | (simp only []; omega)), by (first | omega | (simp only []; omega))⟩
theorem SrcOk.mono {c : List Int} {s : Sl1Src} {k m : Int} (h : SrcOk c s k) (hm : k ≤ m) : SrcOk c s m := ⟨h.1, h.2.1, by have := h.2.2; omega⟩
theorem src_eta (t : Sl1Src) : Sl1Src.mk t.Code t.At = t := rfl
theorem some_ok {c : List Int} {s : Sl1Src} {k n : Int} (hc : ∀ x ∈ c, 0 ≤ x ∧ x ≤ 255) (hl : (c.length : Int) ≤ 2000000) (hs : SrcOk c s k) (hk : k ≤ 900000) (hn : 0 ≤ n ∧ n ≤ 90000) :
    ∃ l s', spec_l1Some s n = some (l, s') ∧ (l.length : Int) = n ∧ (∀ x ∈ l, 0 ≤ x ∧ x ≤ 255) ∧ SrcOk c s' (k + n) := by
  unfold spec_l1Some
  obtain ⟨n, rfl⟩ : ∃ m : Nat, n = m := ⟨n.toNat, by omega⟩
  obtain ⟨t, h1, h2, h3, h4⟩ := loop_rule (step := spec_l1Some_s1) (fun i u => u.2.2.2 = (n : Int) - i ∧ u.1.length = i ∧ (∀ x ∈ u.1, 0 ≤ x ∧ x ≤ 255) ∧ SrcOk c ⟨u.2.1, u.2.2.1⟩ (k + i))
      (fun t => t.1.length = n ∧ (∀ x ∈ t.1, 0 ≤ x ∧ x ≤ 255) ∧ SrcOk c ⟨t.2.1, t.2.2⟩ (k + n)) n (by
    rintro i ⟨w, co, at_, cnt⟩ hi ⟨g1, g2, g3, g4⟩
    simp only at g1 g2 g3 g4
    subst g1
    simp only [spec_l1Some_s1, decide_eq_true_eq]
    rcases Nat.lt_or_ge i n with hh | hh
    · left
      obtain ⟨r, s', e, e1, e2, e3⟩ := next_ok2 (p := 256) hc hl g4 (by omega) (by omega)
      rw [if_pos (by omega), e]
      simp only [Option.bind_some]
      rw [if_pos (okApp_of (by simp; omega)), w64 (by omega)]
      refine ⟨hh, _, rfl, by simp only []; omega, by simp [g2], fun x hx => ?_, ?_⟩
      · rcases List.mem_append.1 hx with hx | hx
        · exact g3 x hx
        · simp at hx; subst hx; rw [wu8 (by omega)]; omega
      · have : k + (i : Int) + 1 = k + ((i + 1 : Nat) : Int) := by omega
        rw [← this]; exact e3
    · right
      obtain rfl : i = n := by omega
      rw [if_neg (by omega)]
      exact ⟨_, rfl, g2, g3, g4⟩) (s := ([], s.Code, s.At, (n : Int))) ⟨by simp, rfl, by simp, by simpa using hs⟩
  rw [h1]
  exact ⟨_, _, rfl, by omega, h3, h4⟩
theorem chance_ok {c : List Int} {s : Sl1Src} {k p : Int} (hc : ∀ x ∈ c, 0 ≤ x ∧ x ≤ 255) (hl : (c.length : Int) ≤ 2000000) (hs : SrcOk c s k) (hk : k ≤ 1000000) (hp : 1 ≤ p ∧ p ≤ 100000000) :
    ∃ b s', spec_l1Chance s p = some (b, s') ∧ SrcOk c s' (k + 1) := by
  unfold spec_l1Chance
  obtain ⟨r, s', h, _, _, k'⟩ := next_ok2 hc hl hs hk hp
  rw [h]; exact ⟨_, _, rfl, k'⟩
/-- The slots of a number, told. -/
def slotsN (n : Nat) : List SSlot := ⟨lowI (lg n), shareI (lg n), 256⟩ :: (if lg n ≤ 1 then [] else if lg n ≤ 9 then [⟨((n % 2 ^ (lg n - 1) : Nat) : Int), 1, 2 ^ (lg n - 1)⟩] else [⟨((n / 256 % 2 ^ (lg n - 9) : Nat) : Int), 1, 2 ^ (lg n - 9)⟩, ⟨((n % 256 : Nat) : Int), 1, 256⟩])
theorem slots_form {v : Int} {n : Nat} (hn : n < 131072) (hz : spec_l4Zig v = (n : Int)) : spec_l4Slots v = some (slotsN n) := by
  have hlg : lg n ≤ 17 := lg_lt (by omega)
  obtain ⟨k1, k2⟩ := class_same (n := lg n) (by omega)
  unfold spec_l4Slots
  rw [hz, length_spec (by omega)]
  simp only [Option.bind_some, k1]
  have fS : ∀ (ps : List Int) (l : List SSlot) (z r : Int), spec_l4Slots_s1 ps z (l, r, (ps.length : Int)) = some (.inr l) := by
    intros; simp only [spec_l4Slots_s1, decide_eq_true_eq]; rw [if_neg (by omega)]
  have z0 : ((0 : Nat) : Int) = 0 := rfl
  rcases pieces_cases hlg with ⟨h1, e⟩ | ⟨x, hx, hc, e⟩ | ⟨x, hx, hc, e⟩
  · rw [e]
    have s1 := fS [] [⟨lowI (lg n), shareI (lg n), 256⟩] n (IntKind.i64.wrap ((lg n : Int) - 1))
    simp only [List.length_nil, z0] at s1 ⊢
    rw [loopO_eq, s1]
    simp [slotsN, h1]
  · rw [e]
    have er : IntKind.i64.wrap ((lg n : Int) - 1) = ((lg n - 1 : Nat) : Int) := by rw [w64 (by omega)]; omega
    rw [er]
    obtain ⟨_, s1⟩ := slot_step (ps := [(x : Int)]) (l := [⟨lowI (lg n), shareI (lg n), 256⟩]) (n := n) (rest := lg n - 1) (i := 0) (by omega) hx rfl (by omega) (by omega) (by simp) (by simp)
    have e1 : ((0 : Nat) : Int) + 1 = (([(x : Int)].length : Nat) : Int) := rfl
    rw [e1, z0] at s1
    rw [loopO_eq, s1]
    simp only []
    rw [loopO_eq, fS]
    have h1 : ¬ lg n ≤ 1 := by omega
    have h9 : lg n ≤ 9 := by omega
    have ex : lg n - 1 = x := by omega
    simp only [slotsN, h1, h9, if_true, if_false, ex, Nat.sub_self, Nat.pow_zero, Nat.div_one, List.cons_append, List.nil_append, Option.bind_some]
  · rw [e]
    have er : IntKind.i64.wrap ((lg n : Int) - 1) = ((lg n - 1 : Nat) : Int) := by rw [w64 (by omega)]; omega
    rw [er]
    obtain ⟨_, s1⟩ := slot_step (ps := [(x : Int), ((8 : Nat) : Int)]) (l := [⟨lowI (lg n), shareI (lg n), 256⟩]) (n := n) (rest := lg n - 1) (i := 0) (by omega) hx rfl (by omega) (by omega) (by simp) (by simp)
    obtain ⟨_, s2⟩ := slot_step (ps := [(x : Int), ((8 : Nat) : Int)]) (l := [⟨lowI (lg n), shareI (lg n), 256⟩] ++ [⟨((n / 2 ^ (lg n - 1 - x) % 2 ^ x : Nat) : Int), 1, 2 ^ x⟩]) (n := n) (rest := lg n - 1 - x) (i := 1) (x := 8) (by omega) (by omega) rfl (by omega) (by omega) (by simp) (by simp)
    have e1 : ((0 : Nat) : Int) + 1 = ((1 : Nat) : Int) := rfl
    have e2 : ((1 : Nat) : Int) + 1 = (([(x : Int), ((8 : Nat) : Int)].length : Nat) : Int) := rfl
    rw [e1, z0] at s1
    rw [e2] at s2
    rw [loopO_eq, s1]
    simp only []
    rw [loopO_eq, s2]
    simp only []
    rw [loopO_eq, fS]
    have h1 : ¬ lg n ≤ 1 := by omega
    have h9 : ¬ lg n ≤ 9 := by omega
    have ex : lg n - 9 = x := by omega
    have ey : lg n - 1 - x = 8 := by omega
    have p8 : 2 ^ 8 = 256 := rfl
    have p8' : (2 : Int) ^ 8 = 256 := rfl
    simp only [slotsN, h1, h9, if_false, ex, ey, Nat.sub_self, Nat.pow_zero, Nat.div_one, List.cons_append, List.nil_append, Option.bind_some, p8, p8']
theorem lg_bounds {n : Nat} (h : 0 < lg n) : 2 ^ (lg n - 1) ≤ n ∧ n < 2 ^ lg n := by
  unfold lg at h ⊢
  by_cases h0 : n = 0
  · rw [if_pos h0] at h; omega
  · rw [if_neg h0]
    exact ⟨by simpa using Nat.log2_self_le h0, Nat.lt_log2_self⟩
theorem lg_zero {n : Nat} (h : lg n = 0) : n = 0 := by
  unfold lg at h
  split at h
  · assumption
  · omega
theorem low_mono : ∀ a b : Nat, a < b → b ≤ 18 → lowI a + shareI a ≤ lowI b := by
  intro a b h hb
  have : ∀ a b : Fin 19, a.val < b.val → lowI a.val + shareI a.val ≤ lowI b.val := by decide +kernel
  exact this ⟨a, by omega⟩ ⟨b, by omega⟩ h
/-- A piece, decoded where it was encoded. -/
theorem piece_exact {ls : List SSlot} (hs : ∀ s ∈ ls, SlotOk s) (hl : ls.length ≤ 400) (hd : (encBytes ls).length ≤ 600) {ps : List Int} {j i x : Nat} {n u : Int} (hn : 1 ≤ n ∧ n ≤ 1048576) (hx : 1 ≤ x ∧ x ≤ 8) (hi : ps[i]? = some (x : Int)) (hp : ps.length ≤ 10)
    (hj : ls[j]? = some ⟨u, 1, 2 ^ x⟩) :
    impl_Decoder_number_o_s1 ps (ps.length : Int) (encBytes ls, (decAt ls j).At, (decAt ls j).Rest, (decAt ls j).Range, n, (i : Int)) = some (.inl (encBytes ls, (decAt ls (j + 1)).At, (decAt ls (j + 1)).Rest, (decAt ls (j + 1)).Range, n * 2 ^ x + u, (i : Int) + 1)) ∧ 0 ≤ u ∧ u < 2 ^ x := by
  have hil : i < ps.length := (List.getElem?_eq_some_iff.1 hi).1
  have p1 : (2 : Int) ≤ 2 ^ x := by
    have := Nat.pow_le_pow_right (n := 2) (by omega) hx.1
    exact_mod_cast this
  have p2 : (2 : Int) ^ x ≤ 256 := by
    have := Nat.pow_le_pow_right (n := 2) (by omega) hx.2
    exact_mod_cast this
  obtain ⟨d1, d2, d3, d4, d5⟩ := dec_step hs hl hd hj
  simp only [] at d3 d4
  have hso := hs _ (List.mem_of_getElem? hj)
  obtain ⟨s1, s2, s3, s4⟩ := hso
  simp only [] at s1 s2 s3 s4
  have hv : valI (decAt ls j) (2 ^ x) = u := by omega
  have v2 := value_impl d1 (t := 2 ^ x) (by omega)
  rw [hv] at v2
  have np : 0 ≤ n * 2 ^ x ∧ n * 2 ^ x ≤ 268435456 := by
    have q1 := Int.mul_le_mul_of_nonneg_left p2 (show 0 ≤ n by omega)
    have q2 := Int.mul_nonneg (show 0 ≤ n by omega) (show (0 : Int) ≤ 2 ^ x by omega)
    omega
  refine ⟨?_, by omega, by omega⟩
  simp only [impl_Decoder_number_o_s1, decide_eq_true_eq]
  have mn : min x 64 = x := by omega
  have or : (BitVec.ofInt 64 (n * 2 ^ x) ||| BitVec.ofInt 64 u).toNat = (n * 2 ^ x + u).toNat := by
    obtain ⟨n', rfl⟩ : ∃ m : Nat, n = m := ⟨n.toNat, by omega⟩
    obtain ⟨u', rfl⟩ : ∃ m : Nat, u = m := ⟨u.toNat, by omega⟩
    have e : ((n' : Int) * 2 ^ x) = ((n' * 2 ^ x : Nat) : Int) := by simp
    rw [e] at np ⊢
    have hu : (u' : Int) < 2 ^ x := by omega
    rw [or_add (by exact_mod_cast hu) (by omega)]
    omega
  have eA : SDecoder.mk (encBytes ls) (decAt ls j).At (decAt ls j).Rest (decAt ls j).Range = decAt ls j := rfl
  rw [if_pos (by omega), getI_nat, hi]
  simp only [Option.bind_some, Int.toNat_natCast, hi, eA]
  rw [if_neg (by omega), mn, Int.one_mul, w64 (n := (2 : Int) ^ x) (by omega), v2]
  simp only [Option.bind_some]
  rw [if_neg (by omega), d5]
  simp only [Option.bind_some]
  rw [if_neg (by omega), w64 (n := n * 2 ^ x) (by omega), or, w64 (n := (i : Int) + 1) (by omega)]
  have : ((n * 2 ^ x + u).toNat : Int) = n * 2 ^ x + u := by omega
  rw [this, w64 (by omega)]
  rfl
theorem number_exact {ls : List SSlot} (hs : ∀ s ∈ ls, SlotOk s) (hl : ls.length ≤ 400) (hd : (encBytes ls).length ≤ 600) {j n : Nat} (hn : n < 131072) (hj : ∀ (k : Nat) (s : SSlot), (slotsN n)[k]? = some s → ls[j + k]? = some s) :
    impl_Decoder_number_o (decAt ls j) = some ((n : Int), encBytes ls, (decAt ls (j + (slotsN n).length)).At, (decAt ls (j + (slotsN n).length)).Rest, (decAt ls (j + (slotsN n).length)).Range) := by
  have hlg : lg n ≤ 17 := lg_lt (by omega)
  have h0 := hj 0 ⟨lowI (lg n), shareI (lg n), 256⟩ rfl
  rw [Nat.add_zero] at h0
  obtain ⟨d1, d2, d3, d4, d5⟩ := dec_step hs hl hd h0
  simp only [] at d3 d4
  have hb := bytes_ok hs (by omega)
  have v2 := value_impl d1 (t := 256) (by omega)
  obtain ⟨_, _, v3, v4⟩ := value_same d1 (t := 256) (by omega)
  obtain ⟨c, c1, c2, c3, c4, c5⟩ := search_same (l := encBytes ls) (a := (decAt ls j).At) (r := (decAt ls j).Rest) (w := (decAt ls j).Range) ⟨v3, v4⟩ 17 0 rfl (by omega) (by simp only [lowI]; omega)
  have hc : c = lg n := by
    rcases Nat.lt_trichotomy c (lg n) with h | h | h
    · have := low_mono c (lg n) h (by omega); omega
    · exact h
    · have := low_mono (lg n) c h (by omega); omega
  subst hc
  obtain ⟨k1, k2⟩ := class_same (n := lg n) (by omega)
  obtain ⟨z1, z2⟩ := class_same (n := 0) (by omega)
  have cls : impl_Decoder_class_o (decAt ls j) = some ((lg n : Int), encBytes ls, (decAt ls (j + 1)).At, (decAt ls (j + 1)).Rest, (decAt ls (j + 1)).Range) := by
    unfold impl_Decoder_class_o
    rw [v2]
    simp only [Option.bind_some]
    have z2' : impl_classSlot 0 = some ⟨lowI 0, shareI 0, 256⟩ := z2
    rw [z2']
    simp only [Option.bind_some]
    have c5' : loopO (impl_Decoder_class_o_s1 (decAt ls j).Data (decAt ls j).At (decAt ls j).Rest (decAt ls j).Range (valI (decAt ls j) 256)) (lowI 0, shareI 0, 256, 0) = some (lg n : Int) := c5
    rw [c5']
    simp only [Option.bind_some, k2, d5]
    rfl
  unfold impl_Decoder_number_o
  rw [cls]
  simp only [Option.bind_some, beq_iff_eq]
  by_cases hz : lg n = 0
  · obtain rfl := lg_zero hz
    rw [if_pos (by rw [hz]; rfl)]
    rfl
  · have lb := lg_bounds (n := n) (by omega)
    rw [if_neg (by omega), pieces_same ⟨by omega, by omega⟩]
    have fI : ∀ (ps l : List Int) (a r w n : Int), impl_Decoder_number_o_s1 ps (ps.length : Int) (l, a, r, w, n, (ps.length : Int)) = some (.inr (l, a, r, w, n)) := by
      intros; simp only [impl_Decoder_number_o_s1, decide_eq_true_eq]; rw [if_neg (by omega)]
    have z0 : ((0 : Nat) : Int) = 0 := rfl
    rcases pieces_cases hlg with ⟨h1, e⟩ | ⟨x, hx, hc, e⟩ | ⟨x, hx, hc, e⟩
    · rw [e]
      have h2 : lg n = 1 := by omega
      rw [h2] at lb
      have i1 := fI [] (encBytes ls) (decAt ls (j + 1)).At (decAt ls (j + 1)).Rest (decAt ls (j + 1)).Range 1
      simp only [List.length_nil, z0] at i1 ⊢
      rw [loopO_eq, i1]
      have e1 : n = 1 := by omega
      have e2 : (slotsN n).length = 1 := by simp [slotsN, h1]
      rw [e2, e1]
      rfl
    · rw [e]
      have h1 : ¬ lg n ≤ 1 := by omega
      have h9 : lg n ≤ 9 := by omega
      have ex : lg n - 1 = x := by omega
      have e2 : (slotsN n) = [⟨lowI (lg n), shareI (lg n), 256⟩, ⟨((n % 2 ^ x : Nat) : Int), 1, 2 ^ x⟩] := by simp only [slotsN, h1, h9, if_true, if_false, ex]
      have g1 := hj 1 ⟨((n % 2 ^ x : Nat) : Int), 1, 2 ^ x⟩ (by rw [e2]; rfl)
      obtain ⟨i1, u0, u1⟩ := piece_exact hs hl hd (ps := [(x : Int)]) (i := 0) (n := 1) (by omega) hx rfl (by simp) g1
      have i2 := fI [(x : Int)] (encBytes ls) (decAt ls (j + 2)).At (decAt ls (j + 2)).Rest (decAt ls (j + 2)).Range (1 * 2 ^ x + ((n % 2 ^ x : Nat) : Int))
      have ev : (1 * 2 ^ x + ((n % 2 ^ x : Nat) : Int)) = (n : Int) := by
        rw [ex, show lg n = x + 1 by omega, Nat.pow_succ] at lb
        have : n % 2 ^ x = n - 2 ^ x := by rw [Nat.mod_eq_sub_mod lb.1, Nat.mod_eq_of_lt (by omega)]
        rw [this, Int.one_mul]
        have e3 : ((2 : Int) ^ x) = ((2 ^ x : Nat) : Int) := by simp
        rw [e3]; omega
      have e1 : ((0 : Nat) : Int) + 1 = (([(x : Int)].length : Nat) : Int) := rfl
      rw [e1, z0] at i1
      rw [loopO_eq, i1]
      simp only []
      rw [loopO_eq, i2, ev, e2]
      rfl
    · rw [e]
      have h1 : ¬ lg n ≤ 1 := by omega
      have h9 : ¬ lg n ≤ 9 := by omega
      have ex : lg n - 9 = x := by omega
      have e2 : (slotsN n) = [⟨lowI (lg n), shareI (lg n), 256⟩, ⟨((n / 256 % 2 ^ x : Nat) : Int), 1, 2 ^ x⟩, ⟨((n % 256 : Nat) : Int), 1, 2 ^ 8⟩] := by simp only [slotsN, h1, h9, if_true, if_false, ex]; rfl
      have g1 := hj 1 ⟨((n / 256 % 2 ^ x : Nat) : Int), 1, 2 ^ x⟩ (by rw [e2]; rfl)
      have g2 := hj 2 ⟨((n % 256 : Nat) : Int), 1, 2 ^ 8⟩ (by rw [e2]; rfl)
      have px : (2 : Int) ^ x ≤ 256 := by
        have := Nat.pow_le_pow_right (n := 2) (by omega) hx.2
        exact_mod_cast this
      have px1 : (2 : Int) ≤ 2 ^ x := by
        have := Nat.pow_le_pow_right (n := 2) (by omega) hx.1
        exact_mod_cast this
      obtain ⟨i1, u0, u1⟩ := piece_exact hs hl hd (ps := [(x : Int), ((8 : Nat) : Int)]) (i := 0) (n := 1) (by omega) hx rfl (by simp) g1
      obtain ⟨i2, _, _⟩ := piece_exact hs hl hd (ps := [(x : Int), ((8 : Nat) : Int)]) (i := 1) (x := 8) (j := j + 2) (n := 1 * 2 ^ x + ((n / 256 % 2 ^ x : Nat) : Int)) (by omega) (by omega) rfl (by simp) g2
      have i3 := fI [(x : Int), ((8 : Nat) : Int)] (encBytes ls) (decAt ls (j + 3)).At (decAt ls (j + 3)).Rest (decAt ls (j + 3)).Range ((1 * 2 ^ x + ((n / 256 % 2 ^ x : Nat) : Int)) * 2 ^ 8 + ((n % 256 : Nat) : Int))
      have ev : ((1 * 2 ^ x + ((n / 256 % 2 ^ x : Nat) : Int)) * 2 ^ 8 + ((n % 256 : Nat) : Int)) = (n : Int) := by
        have e8 : 2 ^ (x + 8) = 2 ^ x * 256 := by rw [Nat.pow_add]
        have e9 : 2 ^ (x + 1 + 8) = 2 ^ x * 2 * 256 := by rw [Nat.pow_add, Nat.pow_add]
        rw [show lg n - 1 = x + 8 by omega, show lg n = x + 1 + 8 by omega, e8, e9] at lb
        have hq : 2 ^ x ≤ n / 256 ∧ n / 256 < 2 ^ x * 2 := ⟨by omega, by omega⟩
        have : n / 256 % 2 ^ x = n / 256 - 2 ^ x := by rw [Nat.mod_eq_sub_mod hq.1, Nat.mod_eq_of_lt (by omega)]
        rw [this, Int.one_mul]
        have e3 : ((2 : Int) ^ x) = ((2 ^ x : Nat) : Int) := by simp
        rw [e3]; omega
      have e1 : ((0 : Nat) : Int) + 1 = ((1 : Nat) : Int) := rfl
      have e4 : ((1 : Nat) : Int) + 1 = (([(x : Int), ((8 : Nat) : Int)].length : Nat) : Int) := rfl
      rw [e1, z0] at i1
      rw [e4] at i2
      rw [loopO_eq, i1]
      simp only []
      rw [loopO_eq, i2]
      simp only []
      rw [loopO_eq, i3, ev, e2]
      rfl
theorem zig_unzig {v : Int} {n : Nat} (hv : -65535 ≤ v ∧ v ≤ 65535) (hz : spec_l4Zig v = (n : Int)) : spec_l4Unzig (n : Int) = v := by
  unfold spec_l4Zig at hz
  simp only [decide_eq_true_eq] at hz
  unfold spec_l4Unzig
  rw [Int.tmod_eq_emod_of_nonneg (Int.natCast_nonneg _)]
  simp only [beq_iff_eq]
  by_cases h : v < 0
  · rw [if_pos h, w64 (n := -2 * v) (by omega), w64 (by omega)] at hz
    rw [if_pos (by omega), w64 (n := (n : Int) + 1) (by omega), w64 (n := 0 - ((n : Int) + 1)) (by omega)]
    rw [show 0 - ((n : Int) + 1) = -((n : Int) + 1) by omega, Int.neg_tdiv, Int.tdiv_eq_ediv_of_nonneg (by omega), w64 (by omega)]; omega
  · rw [if_neg h, w64 (by omega)] at hz
    rw [if_neg (by omega), Int.tdiv_eq_ediv_of_nonneg (by omega), w64 (by omega)]; omega
/-- A list of values, decoded from its own bytes. -/
theorem decode_back {l : List Int} (hl : l.length ≤ 64) (h : ∀ x ∈ l, -65535 ≤ x ∧ x ≤ 65535) (hd : (encBytes (slotsL l)).length ≤ 600) :
    loopO (impl_DecodeValues_s1 (encBytes (slotsL l)) (l.length : Int)) ((decAt (slotsL l) 0).At, (decAt (slotsL l) 0).Rest, (decAt (slotsL l) 0).Range, encBytes (slotsL l), [], 0) = some l := by
  obtain ⟨g1, g2⟩ := slotsL_ok h
  have g0 : (slotsL l).length ≤ 400 := by omega
  obtain ⟨t, h1, rfl⟩ := loop_rule (step := impl_DecodeValues_s1 (encBytes (slotsL l)) (l.length : Int)) (fun i s => s = ((decAt (slotsL l) (slotsL (l.take i)).length).At, (decAt (slotsL l) (slotsL (l.take i)).length).Rest, (decAt (slotsL l) (slotsL (l.take i)).length).Range, encBytes (slotsL l), l.take i, (i : Int))) (fun t => t = l) l.length (by
    rintro i s hi rfl
    simp only [impl_DecodeValues_s1, decide_eq_true_eq]
    rcases Nat.lt_or_ge i l.length with hh | hh
    · obtain ⟨v, hv, hm⟩ := get_lt hh
      obtain ⟨n, hn, hz⟩ := zig_eq (h v hm)
      have hf := slots_form hn hz
      have et : slotsL (l.take (i + 1)) = slotsL (l.take i) ++ slotsN n := by
        rw [List.take_add_one, hv]
        simp only [Option.toList_some]
        rw [slotsL_append]; simp [slotsL, hf]
      have eall : slotsL l = slotsL (l.take i) ++ slotsN n ++ slotsL (l.drop (i + 1)) := by
        rw [← et, ← slotsL_append, List.take_append_drop]
      have hj : ∀ (k : Nat) (s : SSlot), (slotsN n)[k]? = some s → (slotsL l)[(slotsL (l.take i)).length + k]? = some s := by
        intro k s hk
        have hkl : k < (slotsN n).length := (List.getElem?_eq_some_iff.1 hk).1
        rw [eall, List.getElem?_append_left (by rw [List.length_append]; omega), List.getElem?_append_right (by omega)]
        rw [show (slotsL (l.take i)).length + k - (slotsL (l.take i)).length = k by omega]; exact hk
      have hnum := number_exact g2 g0 hd hn hj
      have eA : SDecoder.mk (encBytes (slotsL l)) (decAt (slotsL l) (slotsL (l.take i)).length).At (decAt (slotsL l) (slotsL (l.take i)).length).Rest (decAt (slotsL l) (slotsL (l.take i)).length).Range = decAt (slotsL l) (slotsL (l.take i)).length := rfl
      rw [if_pos (by omega), eA, hnum]
      simp only [Option.bind_some, unzig_same, zig_unzig (h v hm) hz]
      have etk : l.take i ++ [v] = l.take (i + 1) := by rw [List.take_add_one, hv]; rfl
      rw [etk, if_pos (okApp_of (by rw [List.length_take]; omega)), w64 (by omega), et, List.length_append]
      exact .inl ⟨hh, _, rfl, by simp⟩
    · obtain rfl : i = l.length := by omega
      rw [if_neg (by omega), List.take_length]
      exact .inr ⟨_, rfl, rfl⟩) (s := ((decAt (slotsL l) 0).At, (decAt (slotsL l) 0).Rest, (decAt (slotsL l) 0).Range, encBytes (slotsL l), [], 0)) (by simp [slotsL])
  exact h1
theorem slot_factor {w : Int} {s : SSlot} (hw : 65536 ≤ w) (hs : SlotOk s) (ht : s.Total ≤ 256) : w * (65281 * s.Size) ≤ widthI w s * (65536 * s.Total) := by
  obtain ⟨m1, m2, m3, m4⟩ := unit_mul hw hs
  obtain ⟨t1, t2, t3, t4⟩ := hs
  obtain ⟨u1, u2⟩ := unit_ge hw t1
  have hu : w / s.Total * s.Size ≤ widthI w s := by
    unfold widthI
    split <;> omega
  have e := Int.emod_add_mul_ediv w s.Total
  have e2 := Int.emod_lt_of_pos w (show 0 < s.Total by omega)
  have hd : w * 65281 ≤ w / s.Total * s.Total * 65536 := by
    rw [Int.mul_comm s.Total] at e; omega
  have a1 := Int.mul_le_mul_of_nonneg_right hd (show 0 ≤ s.Size by omega)
  have a2 := Int.mul_le_mul_of_nonneg_right hu (show 0 ≤ 65536 * s.Total by omega)
  have e3 : w * 65281 * s.Size = w * (65281 * s.Size) := Int.mul_assoc _ _ _
  have e4 : w / s.Total * s.Size * (65536 * s.Total) = w / s.Total * s.Total * 65536 * s.Size := by simp only [Int.mul_assoc, Int.mul_left_comm, Int.mul_comm]
  rw [← e3]
  rw [e4] at a2
  exact Int.le_trans a1 a2
def Pot (ls : List SSlot) (i : Nat) (A B : Int) : Prop := 16777216 * 256 ^ (enc (ls.take i)).1.length * A ≤ (enc (ls.take i)).2.2 * B
theorem pot_step {ls : List SSlot} (hs : ∀ s ∈ ls, SlotOk s) (hl : ls.length ≤ 40000) {i : Nat} {s : SSlot} (hx : ls[i]? = some s) (ht : s.Total ≤ 256) {A B : Int} (hA : 0 ≤ A) (hB : 0 ≤ B) (h : Pot ls i A B) : Pot ls (i + 1) (A * (65281 * s.Size)) (B * (65536 * s.Total)) := by
  unfold Pot at h ⊢
  obtain ⟨g1, g2, g3⟩ := enc_inv hs hl i
  have hso := hs s (List.mem_of_getElem? hx)
  rw [enc_take hx]
  generalize enc (ls.take i) = st at *
  obtain ⟨o, l, w⟩ := st
  obtain ⟨q1, q2, q3⟩ := encStep_num (o := o) (l := l) (w := w) g1 g2 hso
  have w2 := slot_factor g2 hso ht
  have p1 : (256 : Int) ^ (o.length + cnt 2 (widthI w s)) = 256 ^ o.length * 256 ^ cnt 2 (widthI w s) := Int.pow_add _ _ _
  rw [q1, q3, p1]
  simp only [] at h w2
  clear p1 q1 q2 q3
  have hc := pow_pos256 (k := cnt 2 (widthI w s))
  have hsz := hso.2.1
  generalize (256 : Int) ^ cnt 2 (widthI w s) = c at *
  generalize (256 : Int) ^ o.length = C at *
  have a1 := Int.mul_le_mul_of_nonneg_right h (show 0 ≤ 65281 * s.Size * c from Int.mul_nonneg (by omega) (by omega))
  have a2 := Int.mul_le_mul_of_nonneg_right w2 (show 0 ≤ B * c from Int.mul_nonneg hB (by omega))
  have e1 : 16777216 * (C * c) * (A * (65281 * s.Size)) = 16777216 * C * A * (65281 * s.Size * c) := by simp only [Int.mul_assoc, Int.mul_left_comm, Int.mul_comm]
  have e2 : w * B * (65281 * s.Size * c) = w * (65281 * s.Size) * (B * c) := by simp only [Int.mul_assoc, Int.mul_left_comm, Int.mul_comm]
  have e3 : widthI w s * (65536 * s.Total) * (B * c) = widthI w s * c * (B * (65536 * s.Total)) := by simp only [Int.mul_assoc, Int.mul_left_comm, Int.mul_comm]
  rw [e1, ← e3]
  rw [e2] at a1
  exact Int.le_trans a1 a2
theorem pot_cut {ls : List SSlot} {i : Nat} {A B C D E : Int} (hw : 0 ≤ (enc (ls.take i)).2.2) (hB : 0 ≤ B) (hC : 0 < C) (hD : D ≤ E * C) (h : Pot ls i (A * C) (B * D)) : Pot ls i A (B * E) := by
  unfold Pot at h ⊢
  generalize (enc (ls.take i)).2.2 = w at *
  generalize 16777216 * (256 : Int) ^ (enc (ls.take i)).1.length = p at *
  have a1 := Int.mul_le_mul_of_nonneg_left hD (show 0 ≤ w * B from Int.mul_nonneg hw hB)
  have e1 : p * (A * C) = p * A * C := (Int.mul_assoc _ _ _).symm
  have e2 : w * B * D = w * (B * D) := Int.mul_assoc _ _ _
  have e3 : w * B * (E * C) = w * (B * E) * C := by simp only [Int.mul_assoc]
  rw [e2, e3] at a1
  rw [e1] at h
  exact Int.le_of_mul_le_mul_right (Int.le_trans h a1) hC
theorem pot_value {ls : List SSlot} (hs : ∀ s ∈ ls, SlotOk s) (hl : ls.length ≤ 40000) {j n : Nat} (hn : n < 131072) (hj : ∀ (k : Nat) (s : SSlot), (slotsN n)[k]? = some s → ls[j + k]? = some s) {B : Int} (hB : 0 ≤ B) (h : Pot ls j 1 B) : Pot ls (j + (slotsN n).length) 1 (B * 16777216) := by
  have hlg : lg n ≤ 17 := lg_lt (by omega)
  have hsh : ∀ i : Nat, i ≤ 17 → 2 ≤ shareI (i : Int) := by
    intro i hi
    have : ∀ i : Fin 18, 2 ≤ shareI (i.val : Int) := by decide +kernel
    exact this ⟨i, by omega⟩
  have s2 := hsh (lg n) hlg
  have h0 := hj 0 ⟨lowI (lg n), shareI (lg n), 256⟩ rfl
  rw [Nat.add_zero] at h0
  have p1 := pot_step hs hl h0 (by simp) (by omega) hB h
  simp only [Int.one_mul] at p1
  have hw : ∀ i, 0 ≤ (enc (ls.take i)).2.2 := fun i => by have := (enc_inv hs hl i).2.1; omega
  generalize shareI (lg n) = z at *
  by_cases c1 : lg n ≤ 1
  · have e2 : (slotsN n).length = 1 := by simp [slotsN, c1]
    rw [e2]
    exact pot_cut (hw _) hB (C := 65281 * z) (D := 65536 * 256) (by omega) (by omega) (by rw [Int.one_mul]; exact p1)
  · by_cases c2 : lg n ≤ 9
    · have px : (2 : Int) ^ (lg n - 1) ≤ 256 := by
        have := Nat.pow_le_pow_right (n := 2) (by omega) (show lg n - 1 ≤ 8 by omega)
        exact_mod_cast this
      have px1 : (1 : Int) ≤ 2 ^ (lg n - 1) := by exact_mod_cast Nat.one_le_two_pow
      have g1 := hj 1 ⟨((n % 2 ^ (lg n - 1) : Nat) : Int), 1, 2 ^ (lg n - 1)⟩ (by simp [slotsN, c1, c2])
      have e2 : (slotsN n).length = 2 := by simp [slotsN, c1, c2]
      rw [e2]
      have p2 := pot_step hs hl g1 (by simpa using px) (by omega) (Int.mul_nonneg hB (by omega)) p1
      simp only [Int.mul_one] at p2
      generalize (2 : Int) ^ (lg n - 1) = t at *
      refine pot_cut (hw _) hB (C := 65281 * z * 65281) (D := 65536 * 256 * (65536 * t)) (by omega) (by omega) ?_
      rw [Int.one_mul, ← Int.mul_assoc B]; exact p2
    · have px : (2 : Int) ^ (lg n - 9) ≤ 256 := by
        have := Nat.pow_le_pow_right (n := 2) (by omega) (show lg n - 9 ≤ 8 by omega)
        exact_mod_cast this
      have px1 : (1 : Int) ≤ 2 ^ (lg n - 9) := by exact_mod_cast Nat.one_le_two_pow
      have g1 := hj 1 ⟨((n / 256 % 2 ^ (lg n - 9) : Nat) : Int), 1, 2 ^ (lg n - 9)⟩ (by simp [slotsN, c1, c2])
      have g2 := hj 2 ⟨((n % 256 : Nat) : Int), 1, 256⟩ (by simp [slotsN, c1, c2])
      have e2 : (slotsN n).length = 3 := by simp [slotsN, c1, c2]
      rw [e2]
      have p2 := pot_step hs hl g1 (by simpa using px) (by omega) (Int.mul_nonneg hB (by omega)) p1
      simp only [Int.mul_one] at p2
      generalize (2 : Int) ^ (lg n - 9) = t at *
      have p3 := pot_step hs hl (i := j + 2) g2 (by simp) (by omega) (Int.mul_nonneg (Int.mul_nonneg hB (by omega)) (by omega)) p2
      simp only [Int.mul_one] at p3
      refine pot_cut (hw _) hB (C := 65281 * z * 65281 * 65281) (D := 65536 * 256 * (65536 * t) * (65536 * 256)) (by omega) (by omega) ?_
      rw [Int.one_mul, ← Int.mul_assoc B, ← Int.mul_assoc B]; exact p3
theorem values_short {l : List Int} (hl : l.length ≤ 64) (h : ∀ x ∈ l, -65535 ≤ x ∧ x ≤ 65535) : (encBytes (slotsL l)).length ≤ 3 * l.length + 3 := by
  obtain ⟨g1, g2⟩ := slotsL_ok h
  have key : ∀ i : Nat, i ≤ l.length → Pot (slotsL l) (slotsL (l.take i)).length 1 (16777216 ^ i) := by
    intro i
    induction i with
    | zero => intro _; simp [Pot, slotsL, enc]
    | succ i ih =>
      intro hi
      obtain ⟨v, hv, hm⟩ := get_lt (l := l) (i := i) (by omega)
      obtain ⟨n, hn, hz⟩ := zig_eq (h v hm)
      have hf := slots_form hn hz
      have et : slotsL (l.take (i + 1)) = slotsL (l.take i) ++ slotsN n := by
        rw [List.take_add_one, hv]
        simp only [Option.toList_some]
        rw [slotsL_append]; simp [slotsL, hf]
      have eall : slotsL l = slotsL (l.take i) ++ slotsN n ++ slotsL (l.drop (i + 1)) := by
        rw [← et, ← slotsL_append, List.take_append_drop]
      have hj : ∀ (k : Nat) (s : SSlot), (slotsN n)[k]? = some s → (slotsL l)[(slotsL (l.take i)).length + k]? = some s := by
        intro k s hk
        have hkl : k < (slotsN n).length := (List.getElem?_eq_some_iff.1 hk).1
        rw [eall, List.getElem?_append_left (by rw [List.length_append]; omega), List.getElem?_append_right (by omega)]
        rw [show (slotsL (l.take i)).length + k - (slotsL (l.take i)).length = k by omega]; exact hk
      have := pot_value g2 (by omega) hn hj (Int.le_of_lt (Int.pow_pos (by decide))) (ih (by omega))
      rw [et, List.length_append, Int.pow_succ]; exact this
  have hk := key l.length (Nat.le_refl _)
  rw [List.take_length] at hk
  unfold Pot at hk
  rw [List.take_length, Int.mul_one] at hk
  obtain ⟨e1, e2, _⟩ := enc_inv g2 (by omega) (slotsL l).length
  rw [List.take_length] at e1 e2
  have h1 := (raw_num g2 (by omega)).1
  have hle : (encBytes (slotsL l)).length ≤ (enc (slotsL l)).1.length + 3 := by unfold encBytes; rw [List.length_take]; omega
  apply Nat.le_trans hle
  have hw := e1.2.2.1.2
  generalize (enc (slotsL l)).1.length = k at *
  generalize (enc (slotsL l)).2.2 = w at *
  have hP : (0 : Int) < 16777216 ^ l.length := Int.pow_pos (by decide)
  have a1 := Int.mul_le_mul_of_nonneg_right hw (Int.le_of_lt hP)
  have a2 : (256 : Int) ^ k ≤ 16777216 ^ l.length := by
    generalize (16777216 : Int) ^ l.length = P at *
    omega
  have n1 : 256 ^ k ≤ 16777216 ^ l.length := Int.ofNat_le.1 (by rw [Int.natCast_pow, Int.natCast_pow]; exact a2)
  have n2 : 16777216 ^ l.length = 256 ^ (3 * l.length) := by rw [Nat.pow_mul]
  rw [n2] at n1
  have := (Nat.pow_le_pow_iff_right (a := 256) (by decide)).1 n1
  omega
theorem encodeValues_bad2 : ∀ {l : List Int}, l.length ≤ 64 → (∃ x ∈ l, ¬ (-65535 ≤ x ∧ x ≤ 65535)) → (∀ x ∈ l, -65536 ≤ x ∧ x ≤ 65536) → impl_EncodeValues l = some ⟨3, []⟩ := by
  intro l hl hbad hx
  unfold impl_EncodeValues
  simp only [decide_eq_true_eq]
  rw [if_neg (by omega)]
  obtain ⟨t, h1, rfl⟩ := loop_rule (step := impl_EncodeValues_s1 l (l.length : Int)) (fun i s => (∀ j v, j < i → l[j]? = some v → -65535 ≤ v ∧ v ≤ 65535) ∧ s = (slotsL (l.take i), (i : Int))) (fun t => t = .inr ()) l.length (by
    rintro i s hi ⟨hj, rfl⟩
    simp only [impl_EncodeValues_s1, decide_eq_true_eq]
    rcases Nat.lt_or_ge i l.length with hh | hh
    · obtain ⟨v, hv, hm⟩ := get_lt hh
      rw [if_pos (by omega), getI_nat, hv]
      simp only [Option.bind_some]
      have hv2 := hx v hm
      have ev : impl_isValue v = decide (-65535 ≤ v ∧ v ≤ 65535) := by
        simp only [impl_isValue, impl_within, impl_inRange_eq]
        rw [w64 (by omega)]
        rfl
      rw [ev]
      by_cases hc : -65535 ≤ v ∧ v ≤ 65535
      · rw [if_pos (by simpa using hc)]
        obtain ⟨s, q1, q2, q3, q4⟩ := slots_same (v := v) hc
        obtain ⟨g1, _⟩ := slotsL_ok (l := l.take i) fun x hx => by
          obtain ⟨j, hj'⟩ := List.getElem?_of_mem hx
          have hji : j < i := by have := (List.getElem?_eq_some_iff.1 hj').1; rw [List.length_take] at this; omega
          rw [List.getElem?_take_of_lt hji] at hj'
          exact hj j x hji hj'
        rw [List.length_take] at g1
        rw [q2]
        simp only [Option.bind_some]
        rw [if_pos (okApp_of (by rw [List.length_append]; omega)), w64 (by omega)]
        refine .inl ⟨hh, _, rfl, fun j u hj' hu => ?_, ?_⟩
        · rcases Nat.lt_or_ge j i with hji | hji
          · exact hj j u hji hu
          · obtain rfl : j = i := by omega
            rw [hv] at hu; obtain rfl := Option.some.inj hu; exact hc
        · rw [List.take_add_one, hv]
          simp only [Option.toList_some]
          rw [slotsL_append]; simp [slotsL, q1]
      · rw [if_neg (by simpa using hc)]
        exact .inr ⟨_, rfl, rfl⟩
    · obtain rfl : i = l.length := by omega
      exfalso
      obtain ⟨x, hm, hn⟩ := hbad
      obtain ⟨j, hj'⟩ := List.getElem?_of_mem hm
      exact hn (hj j x (List.getElem?_eq_some_iff.1 hj').1 hj')) (s := ([], 0)) ⟨fun j v hj => by omega, by simp [slotsL]⟩
  rw [h1]
  rfl
theorem signed_ok {c : List Int} {s : Sl1Src} {k p : Int} (hc : ∀ x ∈ c, 0 ≤ x ∧ x ≤ 255) (hl : (c.length : Int) ≤ 2000000) (hs : SrcOk c s k) (hk : k ≤ 1000000) (hp : 0 ≤ p ∧ p ≤ 1000000) :
    ∃ r s', spec_l1Signed s p = some (r, s') ∧ -p ≤ r ∧ r ≤ p ∧ SrcOk c s' (k + 1) := by
  unfold spec_l1Signed
  rw [w64 (n := 2 * p) (by omega), w64 (n := 2 * p + 1) (by omega)]
  obtain ⟨r, s', h, h0, h1, k'⟩ := next_ok2 (p := 2 * p + 1) hc hl hs hk (by omega)
  rw [h]
  simp only [Option.bind_some]
  rw [w64 (by omega)]
  exact ⟨_, _, rfl, by omega, by omega, k'⟩
theorem drawValue_ok {c : List Int} {s : Sl1Src} {k : Int} (hc : ∀ x ∈ c, 0 ≤ x ∧ x ≤ 255) (hl : (c.length : Int) ≤ 2000000) (hs : SrcOk c s k) (hk : k ≤ 900000) :
    ∃ r s', spec_l4Draw s = some (r, s') ∧ -65535 ≤ r ∧ r ≤ 65535 ∧ SrcOk c s' (k + 6) := by
  unfold spec_l4Draw
  obtain ⟨r1, s1, h1, a1, b1, k1⟩ := signed_ok (p := 3) hc hl hs (by omega) (by omega)
  obtain ⟨r2, s2, h2, a2, b2, k2⟩ := signed_ok (p := 3) hc hl k1 (by omega) (by omega)
  obtain ⟨r3, s3, h3, a3, b3, k3⟩ := signed_ok (p := 20) hc hl k2 (by omega) (by omega)
  obtain ⟨r4, s4, h4, a4, b4, k4⟩ := signed_ok (p := 300) hc hl k3 (by omega) (by omega)
  obtain ⟨r5, s5, h5, a5, b5, k5⟩ := signed_ok (p := 65535) hc hl k4 (by omega) (by omega)
  obtain ⟨r6, s6, h6, m6, k6⟩ := pick_ok (l := [0, 0, 0, 1, (-1), r1, r2, r3, r4, r5, 65535, (-65535)]) hc hl k5 (by omega) (by simp)
  simp only [h1, h2, h3, h4, h5, h6, Option.bind_some]
  have : -65535 ≤ r6 ∧ r6 ≤ 65535 := by simp at m6; omega
  exact ⟨_, _, rfl, this.1, this.2, k6.mono (by omega)⟩
theorem drawList_ok {c : List Int} {s : Sl1Src} {k n : Int} (hc : ∀ x ∈ c, 0 ≤ x ∧ x ≤ 255) (hl : (c.length : Int) ≤ 2000000) (hs : SrcOk c s k) (hk : k ≤ 100) (hn : 0 ≤ n ∧ n ≤ 100) :
    ∃ l s', spec_l4List s n = some (l, s') ∧ (l.length : Int) = n ∧ (∀ x ∈ l, -65535 ≤ x ∧ x ≤ 65535) ∧ SrcOk c s' 1000 := by
  unfold spec_l4List
  obtain ⟨n, rfl⟩ : ∃ m : Nat, n = m := ⟨n.toNat, by omega⟩
  obtain ⟨t, h1, h2, h3, h4⟩ := loop_rule (step := spec_l4List_s1) (fun i u => u.2.2.2 = (n : Int) - i ∧ u.1.length = i ∧ (∀ x ∈ u.1, -65535 ≤ x ∧ x ≤ 65535) ∧ SrcOk c ⟨u.2.1, u.2.2.1⟩ (k + 6 * i))
      (fun t => t.1.length = n ∧ (∀ x ∈ t.1, -65535 ≤ x ∧ x ≤ 65535) ∧ SrcOk c ⟨t.2.1, t.2.2⟩ 1000) n (by
    rintro i ⟨w, co, at_, cnt⟩ hi ⟨g1, g2, g3, g4⟩
    simp only at g1 g2 g3 g4
    subst g1
    simp only [spec_l4List_s1, decide_eq_true_eq]
    rcases Nat.lt_or_ge i n with hh | hh
    · left
      obtain ⟨r, s', e, e1, e2, e3⟩ := drawValue_ok hc hl g4 (by omega)
      rw [if_pos (by omega), e]
      simp only [Option.bind_some]
      rw [if_pos (okApp_of (by rw [List.length_append, List.length_singleton]; omega)), w64 (by omega)]
      refine ⟨hh, _, rfl, by simp only []; omega, by simp [g2], fun x hx => ?_, e3.mono (by omega)⟩
      rcases List.mem_append.1 hx with hx | hx
      · exact g3 x hx
      · simp only [List.mem_singleton] at hx; subst hx; exact ⟨e1, e2⟩
    · right
      obtain rfl : i = n := by omega
      rw [if_neg (by omega)]
      exact ⟨_, rfl, g2, g3, g4.mono (by omega)⟩) (s := ([], s.Code, s.At, (n : Int))) ⟨by simp, rfl, by simp, by simpa using hs⟩
  rw [h1]
  exact ⟨_, _, rfl, by omega, h3, h4⟩
theorem mem_set_of {l : List Int} {i : Nat} {v x : Int} (h : x ∈ l.set i v) : x = v ∨ x ∈ l := by
  rcases List.mem_or_eq_of_mem_set h with h | h
  · exact .inr h
  · exact .inl h
theorem drawEnc_ok {c : List Int} (hc : ∀ x ∈ c, 0 ≤ x ∧ x ≤ 255) (hl : (c.length : Int) ≤ 2000000) : ∃ l, spec_DrawEncodeValues c = some l ∧ l.length ≤ 65 ∧ ∀ x ∈ l, -65536 ≤ x ∧ x ≤ 65536 := by
  unfold spec_DrawEncodeValues
  obtain ⟨r1, s1, h1, m1, k1⟩ := pick_ok (l := [0, 1, 2, 5, 9, 20, 64, 65]) hc hl source_ok (by omega) (by simp)
  have hr1 : 0 ≤ r1 ∧ r1 ≤ 65 := by simp at m1; omega
  obtain ⟨l, s2, h2, l1, l2, k2⟩ := drawList_ok (n := r1) hc hl k1 (by omega) (by omega)
  obtain ⟨b, s3, h3, k3⟩ := chance_ok (p := 12) hc hl k2 (by omega) (by omega)
  simp only [h1, h2, Option.bind_some, spec_DrawEncodeValues_u1, src_eta, h3, decide_eq_true_eq]
  by_cases hp : (l.length : Int) > 0
  · rw [if_pos hp]
    simp only [Option.bind_some, spec_DrawEncodeValues_u2, src_eta]
    obtain ⟨r4, s4, h4, a4, b4, k4⟩ := next_ok2 (p := (l.length : Int)) hc hl k3 (by omega) (by omega)
    obtain ⟨r5, s5, h5, m5, k5⟩ := pick_ok (l := [65536, (-65536)]) hc hl k4 (by omega) (by simp)
    obtain ⟨n, rfl⟩ : ∃ n : Nat, r4 = n := ⟨r4.toNat, by omega⟩
    obtain ⟨x, hx, _⟩ := get_lt (l := l) (i := n) (by omega)
    split
    · rw [h4]
      simp only [Option.bind_some, h5, getI_nat, hx, Int.toNat_natCast]
      refine ⟨_, rfl, by rw [List.length_set]; omega, fun y hy => ?_⟩
      rcases mem_set_of hy with rfl | hy
      · simp at m5; omega
      · have := l2 y hy; omega
    · exact ⟨_, rfl, by omega, fun y hy => by have := l2 y hy; omega⟩
  · rw [if_neg hp]
    simp only [Option.bind_some, spec_DrawEncodeValues_u2, Bool.false_eq_true, if_false]
    exact ⟨_, rfl, by omega, fun y hy => by have := l2 y hy; omega⟩
theorem u8_ok {n : Int} : 0 ≤ IntKind.u8.wrap n ∧ IntKind.u8.wrap n ≤ 255 := by simp [IntKind.wrap, IntKind.bits, IntKind.signed]; omega
theorem drawDecV_ok {c : List Int} (hc : ∀ x ∈ c, 0 ≤ x ∧ x ≤ 255) (hl : (c.length : Int) ≤ 2000000) : ∃ d n, spec_DrawDecodeValues c = some (d, n) ∧ (d.length : Int) ≤ maxI ∧ ∀ x ∈ d, 0 ≤ x ∧ x ≤ 255 := by
  unfold spec_DrawDecodeValues maxI
  obtain ⟨r1, s1, h1, m1, k1⟩ := pick_ok (l := [0, 1, 2, 5, 9, 20]) hc hl source_ok (by omega) (by simp)
  have hr1 : 0 ≤ r1 ∧ r1 ≤ 20 := by simp at m1; omega
  obtain ⟨l, s2, h2, l1, l2, k2⟩ := drawList_ok (n := r1) hc hl k1 (by omega) (by omega)
  obtain ⟨e1, e2⟩ := encodeValues_ok (l := l) (by omega) l2
  obtain ⟨g1, g2⟩ := slotsL_ok l2
  obtain ⟨_, _, q3, q4⟩ := encode_same g2 (by omega)
  obtain ⟨r4, s4, h4, a4, b4, k4⟩ := next_ok2 (p := 7) hc hl k2 (by omega) (by omega)
  simp only [h1, h2, e2, h4, Option.bind_some]
  generalize encBytes (slotsL l) = d at *
  unfold spec_DrawDecodeValues_u3
  by_cases c0 : r4 = 0
  · obtain ⟨x1, t1, j1, n1, m1'⟩ := pick_ok (l := [0, 1, 3, 8, 600, 601]) hc hl k4 (by omega) (by simp)
    have hx1 : 0 ≤ x1 ∧ x1 ≤ 601 := by simp at n1; omega
    obtain ⟨y, t2, j2, y1, y2, m2⟩ := some_ok (n := x1) hc hl m1' (by omega) (by omega)
    obtain ⟨x3, t3, j3, n3, m3⟩ := pick_ok (l := [0, 1, 3, 64, 65, (-1)]) hc hl m2 (by omega) (by simp)
    simp only [c0, beq_self_eq_true, if_true, src_eta, j1, j2, j3, Option.bind_some, Sum.elim_inr]
    exact ⟨_, _, rfl, by omega, y2⟩
  · have c0' : (r4 == 0) = false := by simpa using c0
    simp only [c0', Bool.false_eq_true, if_false, spec_DrawDecodeValues_u2]
    by_cases c1 : r4 = 1
    · simp only [c1, beq_self_eq_true, if_true, decide_eq_true_eq]
      by_cases hp : (d.length : Int) > 0
      · rw [if_pos hp]
        obtain ⟨x1, t1, j1, a1, b1, m1'⟩ := next_ok2 (p := (d.length : Int)) hc hl k4 (by omega) (by omega)
        obtain ⟨x2, t2, j2, a2, b2, m2⟩ := next_ok2 (p := 255) hc hl m1' (by omega) (by omega)
        obtain ⟨n, rfl⟩ : ∃ n : Nat, x1 = n := ⟨x1.toNat, by omega⟩
        obtain ⟨y, hy, _⟩ := get_lt (l := d) (i := n) (by omega)
        simp only [spec_DrawDecodeValues_u1, src_eta, j1, j2, getI_nat, hy, Int.toNat_natCast, Option.bind_some, Sum.elim_inl]
        refine ⟨_, _, rfl, by rw [List.length_set]; omega, fun z hz => ?_⟩
        rcases mem_set_of hz with rfl | hz
        · exact u8_ok
        · exact q3 z hz
      · rw [if_neg hp]
        exact ⟨_, _, rfl, by omega, q3⟩
    · have c1' : (r4 == 1) = false := by simpa using c1
      simp only [c1', Bool.false_eq_true, if_false]
      by_cases c2 : r4 = 2
      · simp only [c2, beq_self_eq_true, if_true, Option.bind_some, Sum.elim_inr]
        exact ⟨_, _, rfl, by omega, q3⟩
      · have c2' : (r4 == 2) = false := by simpa using c2
        simp only [c2', Bool.false_eq_true, if_false]
        by_cases c3 : r4 = 3
        · simp only [c3, beq_self_eq_true, if_true]
          rw [if_pos (okApp_of (by rw [List.length_append, List.length_singleton]; omega))]
          refine ⟨_, _, rfl, by simp only [List.length_append, List.length_singleton]; omega, fun z hz => ?_⟩
          simp only [List.mem_append, List.mem_singleton] at hz
          rcases hz with hz | rfl
          · exact q3 z hz
          · omega
        · have c3' : (r4 == 3) = false := by simpa using c3
          simp only [c3', Bool.false_eq_true, if_false]
          exact ⟨_, _, rfl, by omega, q3⟩
theorem encodeValues_same {l : List Int} (hl : l.length ≤ 65) (h : ∀ x ∈ l, -65536 ≤ x ∧ x ≤ 65536) : ∃ e, impl_EncodeValues l = some e ∧ (∃ e', spec_EncodeValues l = some e' ∧ e'.Code = e.Code) ∧ (e.Code = 0 → l.length ≤ 64 ∧ (∀ x ∈ l, -65535 ≤ x ∧ x ≤ 65535) ∧ e.Bytes = encBytes (slotsL l)) := by
  unfold spec_EncodeValues
  simp only [decide_eq_true_eq]
  by_cases h6 : (l.length : Int) > 64
  · rw [if_pos h6]
    refine ⟨⟨2, []⟩, by unfold impl_EncodeValues; simp only [decide_eq_true_eq]; rw [if_pos h6], ⟨_, rfl, rfl⟩, fun h => by simp at h⟩
  · rw [if_neg h6, all_eq (by omega)]
    by_cases hv : ∀ x ∈ l, -65535 ≤ x ∧ x ≤ 65535
    · obtain ⟨v1, v2⟩ := encodeValues_ok (l := l) (by omega) hv
      rw [v2, decide_eq_true hv]
      exact ⟨_, v1, ⟨_, rfl, rfl⟩, fun _ => ⟨by omega, hv, rfl⟩⟩
    · have v1 := encodeValues_bad2 (l := l) (by omega) (by
          apply Classical.byContradiction
          intro hc
          exact hv fun x hx => Classical.byContradiction fun hc2 => hc ⟨x, hx, hc2⟩) h
      rw [decide_eq_false hv]
      exact ⟨_, v1, ⟨_, rfl, rfl⟩, fun h => by simp at h⟩
theorem decode_own {l : List Int} (hl : l.length ≤ 64) (h : ∀ x ∈ l, -65535 ≤ x ∧ x ≤ 65535) : impl_DecodeValues (encBytes (slotsL l)) (l.length : Int) = some ⟨0, l⟩ := by
  have hd := values_short hl h
  obtain ⟨g1, g2⟩ := slotsL_ok h
  obtain ⟨v1, v2⟩ := encodeValues_ok (l := l) (by omega) h
  have h6 : ¬ ((encBytes (slotsL l)).length : Int) > 600 := by omega
  have hn : 0 ≤ (l.length : Int) ∧ (l.length : Int) ≤ 64 := by omega
  have cl : slices_Clone_int64 l = some l := by unfold slices_Clone_int64; rw [if_pos (okApp_of (by omega))]
  unfold impl_DecodeValues
  rw [impl_first_eq (by simp [maxI]), impl_inRange_eq]
  simp only [firstL, impl_codeIf_eq, h6, hn, decide_false, decide_true, Bool.false_eq_true, if_false, Bool.not_true, ne_eq, not_true, bne_self_eq_false, and_self, Option.bind_some]
  rw [decAt_zero g2 (by omega) (by omega)]
  simp only [Option.bind_some]
  have hb := decode_back hl h (by omega)
  have eD : (decAt (slotsL l) 0).Data = encBytes (slotsL l) := rfl
  rw [eD, hb]
  simp [v1, impl_DecodeValues_u2, bytes_Equal, bytesI_eq, cl]
--REST0
--REST0
theorem lwNums_self {l : List Int} (hl : (l.length : Int) ≤ maxI) : laws_lwNums l l = some true := by
  unfold laws_lwNums
  have := eq_any (l := l) (m := l) (step := laws_lwNums_s1 l l) (fun i x y hx hy => by
    have hi : i < l.length := (List.getElem?_eq_some_iff.1 hx).1
    simp only [laws_lwNums_s1, decide_eq_true_eq]
    obtain rfl : x = y := by rw [hx] at hy; exact Option.some.inj hy
    rw [if_pos (by omega), getI_nat, hx]
    simp) (by simp only [laws_lwNums_s1, decide_eq_true_eq]; rw [if_neg (by omega)]) hl
  simpa using this
theorem pure (a : List Int) (ha : ((a.length : Int) ≤ maxI ∧ ∀ x ∈ a, WfI .u8 x)) : laws_FnValues a = some true := by
  obtain ⟨hl, hb⟩ := ha
  have hb' : ∀ x ∈ a, 0 ≤ x ∧ x ≤ 255 := fun x hx => wfU8.1 (hb x hx)
  unfold laws_FnValues
  simp only [laws_lwBig, decide_eq_true_eq]
  split
  · rfl
  · rename_i h
    obtain ⟨l, h1, l1, l2⟩ := drawEnc_ok hb' (by omega)
    obtain ⟨d, n, h2, d1, d2⟩ := drawDecV_ok hb' (by omega)
    obtain ⟨e, e1, ⟨e', e2, e3⟩, e4⟩ := encodeValues_same l1 l2
    obtain ⟨w, w1, w2, w3, w4⟩ := decodeValues_same (n := n) d2 d1
    simp only [h1, h2, e1, w2, Option.bind_some, laws_FnValues_u1, e2, e3, w1, bne_self_eq_false, Bool.false_eq_true, if_false]
    have hu2 : laws_FnValues_u2 l e.Code e.Bytes d w.Code w.List_ n = some false := by
      unfold laws_FnValues_u2
      by_cases hw : w.Code = 0
      · obtain ⟨q1, q2⟩ := w4 hw
        simp [hw, q1, laws_lwBytes, bytesI_eq, q2]
      · simp [hw]
    rw [hu2]
    simp only [Option.bind_some, Bool.false_eq_true, if_false]
    by_cases h0 : e.Code = 0
    · obtain ⟨g1, g2, g3⟩ := e4 h0
      have hs := values_short g1 g2
      rw [if_neg (by simp [h0]), g3, decode_own g1 g2]
      simp only [Option.bind_some, laws_FnValues_u3, beq_self_eq_true, if_true, lwNums_self (l := l) (by unfold maxI; omega)]
      rw [w64 (n := 3 * (l.length : Int)) (by omega), w64 (by omega), decide_eq_true (by omega)]
    · rw [if_pos (by simpa using h0)]
end FnValues
end Go.Proofs.YtclhghlpokdiiaaDoor.Wm
