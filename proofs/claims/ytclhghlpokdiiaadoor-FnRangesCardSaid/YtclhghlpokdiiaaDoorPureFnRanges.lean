/- What FnRanges comes to on plain values: true. -/
import Derived.Test.YtclhghlpokdiiaaDoorFnFnRanges
set_option linter.unusedSimpArgs false
set_option linter.unusedVariables false
set_option maxRecDepth 100000
namespace Go.Proofs.YtclhghlpokdiiaaDoor.Wm
open Go
namespace FnRanges
theorem spec_l1In_eq {a b c : Int} : spec_l1In a b c = decide (b ≤ a ∧ a ≤ c) := by
  simp only [spec_l1In, spec_l1In_u1, decide_eq_true_eq]
  by_cases h1 : b ≤ a <;> by_cases h2 : a ≤ c <;> simp [h1, h2]
theorem impl_inRange_eq {a b c : Int} : impl_inRange a b c = decide (b ≤ a ∧ a ≤ c) := by
  simp only [impl_inRange, impl_inRange_u1, decide_eq_true_eq]
  by_cases h1 : b ≤ a <;> by_cases h2 : a ≤ c <;> simp [h1, h2]
def firstL : List Int → Int
  | [] => 0
  | x :: l => if x ≠ 0 then x else firstL l
theorem firstL_skip : ∀ {i : Nat} {l : List Int}, (∀ j x, j < i → l[j]? = some x → x = 0) → firstL l = firstL (l.drop i)
  | 0, l, h => by simp
  | i + 1, [], h => by simp
  | i + 1, x :: l, h => by
    have := h 0 x (by omega) rfl
    subst this
    simp only [firstL, ne_eq, not_true, if_false, List.drop_succ_cons]
    exact firstL_skip fun j x hj hx => h (j + 1) x (by omega) (by simpa using hx)
theorem impl_first_eq {l : List Int} (hl : (l.length : Int) ≤ maxI) : impl_first l = some (firstL l) := by
  unfold maxI at hl
  unfold impl_first
  obtain ⟨t, h1, h2⟩ := loop_rule (step := impl_first_s1 l (l.length : Int)) (fun i s => s = (i : Int) ∧ ∀ j x, j < i → l[j]? = some x → x = 0)
      (fun t => (t = .inl () ∧ firstL l = 0) ∨ (t = .inr (firstL l))) l.length (by
    rintro i s hi ⟨rfl, hj⟩
    simp only [impl_first_s1, decide_eq_true_eq]
    rcases Nat.lt_or_ge i l.length with h | h
    · obtain ⟨x, hx, hm⟩ := get_lt h
      rw [if_pos (by omega), getI_nat, hx, w64 (by omega)]
      simp only [Option.bind_some, bne_iff_ne, ne_eq]
      by_cases hp : x = 0
      · left
        rw [if_neg (by simp [hp])]
        refine ⟨h, _, rfl, by simp, fun j y hj' hy => ?_⟩
        rcases Nat.lt_or_ge j i with hji | hji
        · exact hj j y hji hy
        · obtain rfl : j = i := by omega
          rw [hx] at hy; obtain rfl := Option.some.inj hy; exact hp
      · right
        rw [if_pos hp]
        refine ⟨_, rfl, .inr ?_⟩
        rw [firstL_skip hj, List.drop_eq_getElem_cons h, firstL]
        have : l[i] = x := by rw [List.getElem?_eq_getElem h] at hx; exact Option.some.inj hx
        rw [this, if_pos hp]
    · right
      rw [if_neg (by omega)]
      refine ⟨_, rfl, .inl ⟨rfl, ?_⟩⟩
      rw [firstL_skip hj, List.drop_eq_nil_of_le h]; rfl) (s := 0) ⟨rfl, fun j x hj => by omega⟩
  rw [h1]
  rcases h2 with ⟨rfl, h⟩ | rfl
  · simp [h]
  · simp
theorem impl_codeIf_eq {b : Bool} {c : Int} : impl_codeIf b c = if b = true then c else 0 := rfl
theorem loop_same {ς τ : Type} {step1 step2 : ς → Option (ς ⊕ τ)} (I : Nat → ς → Prop) (Q : τ → Prop) (n : Nat)
    (h : ∀ i s, i ≤ n → I i s → step1 s = step2 s ∧ ((i < n ∧ ∃ s', step2 s = some (.inl s') ∧ I (i + 1) s') ∨ ∃ t, step2 s = some (.inr t) ∧ Q t)) {s : ς} (h0 : I 0 s) : ∃ t, loopO step1 s = some t ∧ loopO step2 s = some t ∧ Q t := by
  have key : ∀ m i s, n - i = m → i ≤ n → I i s → ∃ t, loopO step1 s = some t ∧ loopO step2 s = some t ∧ Q t := by
    intro m
    induction m with
    | zero =>
      intro i s hm hi hI
      obtain ⟨e, h | ⟨t, h1, h2⟩⟩ := h i s hi hI
      · omega
      · exact ⟨t, by rw [loopO_eq, e, h1], by rw [loopO_eq, h1], h2⟩
    | succ m ih =>
      intro i s hm hi hI
      obtain ⟨e, ⟨h1, s', h2, h3⟩ | ⟨t, h1, h2⟩⟩ := h i s hi hI
      · obtain ⟨t, k1, k2, k3⟩ := ih (i + 1) s' (by omega) (by omega) h3
        exact ⟨t, by rw [loopO_eq, e, h2]; exact k1, by rw [loopO_eq, h2]; exact k2, k3⟩
      · exact ⟨t, by rw [loopO_eq, e, h1], by rw [loopO_eq, h1], h2⟩
  exact key (n - 0) 0 s rfl (Nat.zero_le _) h0
theorem and_mask {w : Nat} {a : Int} {m : Nat} (h0 : 0 ≤ a) (h1 : a < 2 ^ w) (hm : m ≤ w) (hw : 0 < w) : (BitVec.ofInt w a &&& BitVec.ofInt w (2 ^ m - 1)).toNat = a.toNat % 2 ^ m := by
  obtain ⟨n, rfl⟩ : ∃ n : Nat, a = n := ⟨a.toNat, by omega⟩
  have hn : n < 2 ^ w := by exact_mod_cast h1
  have hm2 : (2 : Nat) ^ m - 1 < 2 ^ w := by
    have := Nat.pow_le_pow_right (n := 2) (by omega) hm
    have := Nat.two_pow_pos m
    omega
  have e : ((2 : Int) ^ m - 1) = ((2 ^ m - 1 : Nat) : Int) := by
    have := Nat.two_pow_pos m
    rw [Int.natCast_sub (by omega)]; simp
  rw [e, BitVec.toNat_and]
  simp only [BitVec.ofInt_natCast, BitVec.toNat_ofNat, Int.toNat_natCast]
  rw [Nat.mod_eq_of_lt hn, Nat.mod_eq_of_lt hm2, Nat.and_two_pow_sub_one_eq_mod]
theorem and_one {w : Nat} {a : Int} (h0 : 0 ≤ a) (h1 : a < 2 ^ w) (hw : 0 < w) : (BitVec.ofInt w a &&& BitVec.ofInt w 1).toNat = a.toNat % 2 := by
  have := and_mask (m := 1) h0 h1 (by omega) hw
  simpa using this
theorem xor_lt {a b : Int} (h0 : 0 ≤ a ∧ a < 65536) (h1 : 0 ≤ b ∧ b < 65536) : (BitVec.ofInt IntKind.i64.bits a ^^^ BitVec.ofInt IntKind.i64.bits b).toNat < 65536 := by
  obtain ⟨n, rfl⟩ : ∃ n : Nat, a = n := ⟨a.toNat, by omega⟩
  obtain ⟨m, rfl⟩ : ∃ m : Nat, b = m := ⟨b.toNat, by omega⟩
  rw [BitVec.toNat_xor]
  simp only [BitVec.ofInt_natCast, BitVec.toNat_ofNat, IntKind.bits]
  rw [Nat.mod_eq_of_lt (by omega), Nat.mod_eq_of_lt (by omega)]
  exact Nat.xor_lt_two_pow (n := 16) (by omega) (by omega)
theorem fdiv_pow {a : Int} {k : Nat} (h : 0 ≤ a) : a.fdiv (2 ^ k) = ((a.toNat / 2 ^ k : Nat) : Int) := by
  obtain ⟨n, rfl⟩ : ∃ n : Nat, a = n := ⟨a.toNat, by omega⟩
  rw [Int.fdiv_eq_ediv_of_nonneg _ (by exact_mod_cast Nat.zero_le _)]
  simp only [Int.toNat_natCast]
  exact_mod_cast rfl
def DecOk (d : SDecoder) : Prop := d.Data.length ≤ 600 ∧ (0 ≤ d.At ∧ d.At ≤ 10000) ∧ (65536 ≤ d.Range ∧ d.Range ≤ 16777216) ∧ (0 ≤ d.Rest ∧ d.Rest ≤ d.Range - 1)
def SlotOk (s : SSlot) : Prop := (1 ≤ s.Total ∧ s.Total ≤ 1024) ∧ (1 ≤ s.Size ∧ s.Size ≤ s.Total) ∧ 0 ≤ s.Low ∧ s.Low ≤ s.Total - s.Size
theorem unit_ge {r t : Int} (hr : 65536 ≤ r) (ht : 1 ≤ t ∧ t ≤ 1024) : 64 ≤ r / t ∧ r / t ≤ r := ⟨Int.le_ediv_of_mul_le (by omega) (by omega), Int.ediv_le_self _ (by omega)⟩
def valI (d : SDecoder) (t : Int) : Int := if d.Rest / (d.Range / t) < t - 1 then d.Rest / (d.Range / t) else t - 1
def widthI (r : Int) (s : SSlot) : Int := if s.Low + s.Size = s.Total then r - r / s.Total * s.Low else r / s.Total * s.Size
theorem unit_mul {r : Int} {s : SSlot} (hr : 65536 ≤ r) (hs : SlotOk s) : r / s.Total * s.Low + r / s.Total * s.Size = r / s.Total * (s.Low + s.Size) ∧ r / s.Total * (s.Low + s.Size) ≤ r ∧ 0 ≤ r / s.Total * s.Low ∧ 64 ≤ r / s.Total * s.Size := by
  obtain ⟨h1, h2, h3, h4⟩ := hs
  obtain ⟨u1, u2⟩ := unit_ge hr h1
  have e := Int.ediv_mul_le r (show s.Total ≠ 0 by omega)
  have a := Int.mul_le_mul_of_nonneg_left (show s.Low + s.Size ≤ s.Total by omega) (show 0 ≤ r / s.Total by omega)
  have b := Int.mul_nonneg (show 0 ≤ r / s.Total by omega) h3
  have c := Int.mul_le_mul u1 h2.1 (by omega) (show 0 ≤ r / s.Total by omega)
  exact ⟨(Int.mul_add _ _ _).symm, by omega, b, by omega⟩
theorem narrow_same {r : Int} {s : SSlot} (hr : 65536 ≤ r ∧ r ≤ 16777216) (hs : SlotOk s) : spec_l3Narrow r s = some (widthI r s) ∧ impl_narrowed r s = some (r / s.Total * s.Low, widthI r s) ∧ IntKind.i64.wrap ((IntKind.i64.wrap (r.tdiv s.Total)) * s.Low) = r / s.Total * s.Low ∧ 64 ≤ widthI r s ∧ widthI r s ≤ 16777216 := by
  obtain ⟨m1, m2, m3, m4⟩ := unit_mul hr.1 hs
  obtain ⟨h1, h2, h3, h4⟩ := hs
  obtain ⟨u1, u2⟩ := unit_ge hr.1 h1
  unfold spec_l3Narrow impl_narrowed widthI
  rw [Int.tdiv_eq_ediv_of_nonneg (by omega), w64 (n := r / s.Total) (by omega), w64 (n := r / s.Total * s.Low) (by omega), w64 (n := r / s.Total * s.Size) (by omega), w64 (n := r - r / s.Total * s.Low) (by omega), w64 (n := s.Low + s.Size) (by omega)]
  have n1 : ¬ s.Total = 0 := by omega
  simp only [beq_iff_eq, n1, if_false]
  by_cases c : s.Low + s.Size = s.Total
  · simp only [c, if_true, true_and]
    rw [c] at m1 m2
    omega
  · simp only [c, if_false, true_and]
    omega
def byteAt (l : List Int) (a : Int) : Int := (l[a.toNat]?).getD 0
theorem byteAt_ok {l : List Int} {a : Int} (hb : ∀ x ∈ l, 0 ≤ x ∧ x ≤ 255) : 0 ≤ byteAt l a ∧ byteAt l a ≤ 255 := by
  unfold byteAt
  rcases Nat.lt_or_ge a.toNat l.length with h | h
  · obtain ⟨x, hx, hm⟩ := get_lt h
    rw [hx]; exact hb x hm
  · rw [List.getElem?_eq_none h]; simp
theorem next_impl {d : SDecoder} (hb : ∀ x ∈ d.Data, 0 ≤ x ∧ x ≤ 255) (h0 : 0 ≤ d.At ∧ d.At ≤ 1000000) : impl_Decoder_next_o d = some (byteAt d.Data d.At, d.Data, d.At + 1) := by
  unfold impl_Decoder_next_o byteAt
  simp only [decide_eq_true_eq]
  have e1 : IntKind.i64.wrap (d.At + 1) = d.At + 1 := w64 (by omega)
  have e2 : IntKind.i64.wrap (d.At + 1 - 1) = d.At := by rw [w64 (by omega)]; omega
  rw [e1, e2]
  generalize d.At = a at *
  obtain ⟨n, rfl⟩ : ∃ n : Nat, a = n := ⟨a.toNat, by omega⟩
  rcases Nat.lt_or_ge n d.Data.length with h | h
  · obtain ⟨x, hx, hm⟩ := get_lt h
    have := hb x hm
    rw [if_neg (by omega), getI_nat, Int.toNat_natCast, hx]
    simp only [Option.bind_some, Option.getD_some]
    rw [w64 (by omega)]
  · rw [if_pos (by omega), Int.toNat_natCast, List.getElem?_eq_none h]; rfl
def trimN (l : List Int) : Nat → Nat
  | 0 => 0
  | k + 1 => if l[k]? = some 0 then trimN l k else k + 1
theorem trim_spec {l : List Int} (hl : l.length ≤ 1000000) : ∀ k : Nat, k ≤ l.length → loopO (spec_l3Encode_s8 l) k = some (trimN l k)
  | 0, _ => by
    rw [loopO_eq]
    simp only [spec_l3Encode_s8, spec_l3Encode_u7]
    rw [if_neg (by decide)]; rfl
  | k + 1, h => by
    obtain ⟨x, hx, _⟩ := get_lt (l := l) (i := k) (by omega)
    have hx2 : (l.take (k + 1))[k]? = some x := by rw [List.getElem?_take_of_lt (by omega)]; exact hx
    have e1 : IntKind.i64.wrap (((k + 1 : Nat) : Int) - 1) = (k : Int) := by rw [w64 (by omega)]; omega
    rw [loopO_eq]
    simp only [spec_l3Encode_s8, spec_l3Encode_u7, e1, decide_eq_true_eq]
    rw [if_pos (by omega), getI_nat, hx2, Int.toNat_natCast, hx]
    simp only [Option.bind_some, beq_iff_eq, trimN, hx, Option.some.injEq]
    by_cases h0 : x = 0
    · rw [if_pos h0, if_pos h0]
      have : upI (k + 1) (k : Int) = some k := by unfold upI; rw [if_pos (by omega), Int.toNat_natCast]
      rw [this]
      simp only [Option.bind_some]
      exact trim_spec hl k (by omega)
    · rw [if_neg h0, if_neg h0]
theorem trim_impl {l : List Int} (hl : l.length ≤ 1000000) : ∀ k : Nat, k ≤ l.length → loopO (bytes_trimRightByte_s3 0) (l.take k) = some (l.take (trimN l k))
  | 0, _ => by
    rw [loopO_eq]
    simp only [bytes_trimRightByte_s3, bytes_trimRightByte_u2]
    rw [if_neg (by simp)]; simp [trimN]
  | k + 1, h => by
    obtain ⟨x, hx, _⟩ := get_lt (l := l) (i := k) (by omega)
    have hx2 : (l.take (k + 1))[k]? = some x := by rw [List.getElem?_take_of_lt (by omega)]; exact hx
    have hlen : (l.take (k + 1)).length = k + 1 := by rw [List.length_take]; omega
    have e1 : IntKind.i64.wrap (((k + 1 : Nat) : Int) - 1) = (k : Int) := by rw [w64 (by omega)]; omega
    rw [loopO_eq]
    simp only [bytes_trimRightByte_s3, bytes_trimRightByte_u2, hlen, e1, decide_eq_true_eq]
    rw [if_pos (by omega), getI_nat, hx2]
    simp only [Option.bind_some, beq_iff_eq, trimN, hx, Option.some.injEq]
    by_cases h0 : x = 0
    · rw [if_pos h0, if_pos h0]
      have : subI (l.take (k + 1)) 0 (k : Int) = some (l.take k) := by
        unfold subI cutI
        rw [hlen, if_pos (by omega), if_pos (by omega)]
        simp [List.take_take]
      rw [this]
      simp only [Option.bind_some]
      exact trim_impl hl k (by omega)
    · rw [if_neg h0, if_neg h0]
theorem trimRight_eq {l : List Int} (hl : l.length ≤ 1000000) : bytes_TrimRight_lit l = some (l.take (trimN l l.length)) := by
  unfold bytes_TrimRight_lit bytes_TrimRight_lit_u1
  have ne : (([0] : List UInt8) == []) = false := rfl
  rcases Nat.eq_zero_or_pos l.length with h | h
  · obtain rfl : l = [] := List.eq_nil_of_length_eq_zero h
    simp
  · have h1 : ¬ ((l.length : Int) = 0) := by omega
    have := trim_impl hl l.length (by omega)
    rw [List.take_length] at this
    simp [h1, bytes_trimRightByte, this]
    intro e; rw [e] at h; simp at h
def numR : List Int → Int
  | [] => 0
  | x :: l => x + 256 * numR l
def carryR : List Int → List Int
  | [] => []
  | x :: l => if x = 255 then 0 :: carryR l else (x + 1) :: l
theorem carryR_len : ∀ l : List Int, (carryR l).length = l.length
  | [] => rfl
  | x :: l => by simp only [carryR]; split <;> simp [carryR_len l]
theorem carryR_bytes : ∀ {l : List Int}, (∀ x ∈ l, 0 ≤ x ∧ x ≤ 255) → ∀ x ∈ carryR l, 0 ≤ x ∧ x ≤ 255
  | [], h => by simp [carryR]
  | x :: l, h => by
    have hx := h x (by simp)
    have hl : ∀ y ∈ l, 0 ≤ y ∧ y ≤ 255 := fun y hy => h y (by simp [hy])
    simp only [carryR]
    split
    · intro y hy
      rcases List.mem_cons.1 hy with rfl | hy
      · omega
      · exact carryR_bytes hl y hy
    · intro y hy
      rcases List.mem_cons.1 hy with rfl | hy
      · omega
      · exact hl y hy
theorem numR_pos : ∀ {l : List Int}, (∀ x ∈ l, 0 ≤ x ∧ x ≤ 255) → 0 ≤ numR l
  | [], _ => by simp [numR]
  | x :: l, h => by
    have hx := h x (by simp)
    have := numR_pos (l := l) fun y hy => h y (by simp [hy])
    simp only [numR]; omega
theorem carryR_num : ∀ {l : List Int}, (∃ x ∈ l, x ≠ 255) → numR (carryR l) = numR l + 1
  | [], h => by obtain ⟨_, h, _⟩ := h; simp at h
  | x :: l, h => by
    simp only [carryR]
    by_cases hx : x = 255
    · rw [if_pos hx]
      obtain ⟨y, hy, hn⟩ := h
      rcases List.mem_cons.1 hy with rfl | hy
      · exact absurd hx hn
      · have := carryR_num (l := l) ⟨y, hy, hn⟩
        simp only [numR, this]; omega
    · rw [if_neg hx]; simp only [numR]; omega
theorem not_full : ∀ {l : List Int} {k : Int}, numR l + 1 < 256 ^ l.length → ∃ x ∈ l, x ≠ 255
  | [], _, h => by simp [numR] at h
  | x :: l, k, h => by
    by_cases hx : x = 255
    · subst hx
      simp only [numR, List.length_cons, Int.pow_succ] at h
      obtain ⟨y, hy, hn⟩ := not_full (l := l) (k := k) (by generalize (256 : Int) ^ l.length = p at *; omega)
      exact ⟨y, by simp [hy], hn⟩
    · exact ⟨x, by simp, hx⟩
theorem numR_cons {l : List Int} {x : Int} : numR (l ++ [x]).reverse = x + 256 * numR l.reverse := by simp [numR]
def carryF (l : List Int) : List Int := (carryR l.reverse).reverse
theorem carryF_len {l : List Int} : (carryF l).length = l.length := by simp [carryF, carryR_len]
theorem carry_loops : ∀ (r c : List Int), r.length ≤ 100000 → (∀ x ∈ r, 0 ≤ x ∧ x ≤ 255) → (∃ x ∈ r, x ≠ 255) → ∃ (x : Int) (r2 z : List Int), 0 ≤ x ∧ x < 255 ∧ r2.length < r.length ∧ (carryR r).reverse ++ c = r2.reverse ++ (x + 1) :: z ∧
    loopO impl_carry_s1 (r.reverse ++ c, (r.length : Int) - 1) = some (r2.reverse ++ x :: z, (r2.length : Int)) ∧
    loopO spec_l3Carry_s1 (r.reverse ++ c, (r.length : Int) - 1) = some (.inr ((carryR r).reverse ++ c))
  | [], c, _, _, h => by obtain ⟨_, h, _⟩ := h; simp at h
  | x :: r, c, hl, hb, h => by
    have hx := hb x (by simp)
    simp only [List.length_cons] at hl
    have e0 : (((x :: r).length : Nat) : Int) - 1 = (r.length : Int) := by simp only [List.length_cons]; omega
    have eg : ((x :: r).reverse ++ c)[r.length]? = some x := by simp
    have es : ∀ v, ((x :: r).reverse ++ c).set r.length v = r.reverse ++ v :: c := fun v => by simp [List.set_append]
    rw [e0, loopO_eq, loopO_eq (step := spec_l3Carry_s1)]
    simp only [impl_carry_s1, spec_l3Carry_s1, getI_nat, Int.toNat_natCast, eg, es, Option.bind_some, decide_eq_true_eq, beq_iff_eq]
    rw [if_pos (show (r.length : Int) ≥ 0 by omega)]
    by_cases h5 : x = 255
    · rw [if_pos h5, if_neg (by omega)]
      simp only [carryR, if_pos h5]
      obtain ⟨y, hy, hn⟩ := h
      have hy' : y ∈ r := by
        rcases List.mem_cons.1 hy with rfl | hy
        · exact absurd h5 hn
        · exact hy
      obtain ⟨x2, r2, z, q1, q2, q3, q4, q5, q6⟩ := carry_loops r (0 :: c) (by omega) (fun y hy => hb y (by simp [hy])) ⟨y, hy', hn⟩
      rw [w64 (by omega)]
      refine ⟨x2, r2, z, q1, q2, by simp only [List.length_cons]; omega, ?_, q5, ?_⟩
      · simpa using q4
      · simpa using q6
    · rw [if_neg h5, if_pos (by omega)]
      simp only [carryR, if_neg h5]
      rw [wu8 (by omega)]
      exact ⟨x, r, c, hx.1, by omega, by simp, by simp, by simp, by simp⟩
theorem carry_same {l : List Int} (hl : l.length ≤ 100000) (hb : ∀ x ∈ l, 0 ≤ x ∧ x ≤ 255) (h : ∃ x ∈ l, x ≠ 255) : impl_carry l = some (carryF l) ∧ spec_l3Carry l = some (carryF l) := by
  obtain ⟨y, hy, hn⟩ := h
  obtain ⟨x, r2, z, q1, q2, q3, q4, q5, q6⟩ := carry_loops l.reverse [] (by simpa using hl) (fun x hx => hb x (by simpa using hx)) ⟨y, by simpa using hy, hn⟩
  simp only [List.reverse_reverse, List.append_nil, List.length_reverse] at q3 q4 q5 q6
  have hp : 0 < l.length := by cases l with
    | nil => simp at hy
    | cons => simp
  constructor
  · unfold impl_carry
    rw [w64 (by omega), q5]
    have eg : (r2.reverse ++ x :: z)[r2.length]? = some x := by simp
    have es : ∀ v, (r2.reverse ++ x :: z).set r2.length v = r2.reverse ++ v :: z := fun v => by simp [List.set_append]
    simp only [Option.bind_some, getI_nat, Int.toNat_natCast, eg, es]
    rw [wu8 (by omega), carryF, q4]
  · unfold spec_l3Carry spec_l1Copy
    rw [if_pos (okApp_of (by omega))]
    simp only [Option.bind_some]
    rw [w64 (by omega), q6]
    rfl
/-- The encoder's state: bytes, low, width. -/
def EInv (o : List Int) (l w : Int) : Prop := (∀ x ∈ o, 0 ≤ x ∧ x ≤ 255) ∧ (0 ≤ l ∧ l < 16777216) ∧ (1 ≤ w ∧ w ≤ 16777216) ∧ numR o.reverse * 16777216 + l + w ≤ 256 ^ o.length * 16777216
def emit : Nat → List Int → Int → Int → List Int × Int × Int
  | 0, o, l, w => (o, l, w)
  | n + 1, o, l, w => if w < 65536 then emit n (o ++ [l / 65536]) (l % 65536 * 256) (w * 256) else (o, l, w)
theorem emit_inv {o : List Int} {l w : Int} (h : EInv o l w) (hw : w < 65536) : EInv (o ++ [l / 65536]) (l % 65536 * 256) (w * 256) := by
  obtain ⟨h1, h2, h3, h4⟩ := h
  refine ⟨fun x hx => ?_, by omega, by omega, ?_⟩
  · rcases List.mem_append.1 hx with hx | hx
    · exact h1 x hx
    · simp at hx; omega
  · rw [numR_cons, List.length_append, List.length_singleton, Int.pow_succ]
    generalize numR o.reverse = a at *
    generalize (256 : Int) ^ o.length = p at *
    omega
theorem emit_same {ls : List SSlot} {i1 i2 i3 : Int} : ∀ (n : Nat) (o : List Int) (l w : Int), EInv o l w → 65536 ≤ w * 256 ^ n → o.length + n ≤ 100000 →
    loopO (spec_l3Encode_s4 ls i1) (o, l, w) = some (emit n o l w) ∧ loopO (impl_encode_s4 ls i2 i3) (o, l, w) = some (emit n o l w) ∧
    EInv (emit n o l w).1 (emit n o l w).2.1 (emit n o l w).2.2 ∧ 65536 ≤ (emit n o l w).2.2 ∧ (emit n o l w).1.length ≤ o.length + n
  | 0, o, l, w, h, hw, hl => by
    have : 65536 ≤ w := by simpa using hw
    rw [loopO_eq, loopO_eq (step := impl_encode_s4 _ _ _)]
    simp only [spec_l3Encode_s4, impl_encode_s4, decide_eq_true_eq]
    rw [if_neg (by omega), if_neg (by omega)]
    exact ⟨rfl, rfl, h, this, by simp [emit]⟩
  | n + 1, o, l, w, h, hw, hl => by
    rw [loopO_eq, loopO_eq (step := impl_encode_s4 _ _ _)]
    simp only [spec_l3Encode_s4, impl_encode_s4, decide_eq_true_eq, emit]
    by_cases hc : w < 65536
    · have hi := emit_inv h hc
      obtain ⟨h1, h2, h3, h4⟩ := h
      have ef : l.fdiv (2 ^ (min 16 64)) = l / 65536 := by
        rw [show min 16 64 = 16 by decide, fdiv_pow h2.1]
        obtain ⟨n, rfl⟩ : ∃ n : Nat, l = n := ⟨l.toNat, by omega⟩
        simp
      have et : l.tdiv 65536 = l / 65536 := Int.tdiv_eq_ediv_of_nonneg h2.1
      have em : l.tmod 65536 = l % 65536 := Int.tmod_eq_emod_of_nonneg h2.1
      rw [ef, et, em, w64 (n := l / 65536) (by omega), wu8 (by omega), w64 (by omega), w64 (n := w * 256) (by omega)]
      rw [if_pos hc, if_pos hc, if_pos (okApp_of (by rw [List.length_append, List.length_singleton]; omega))]
      obtain ⟨q1, q2, q3, q4, q5⟩ := emit_same (ls := ls) (i1 := i1) (i2 := i2) (i3 := i3) n _ _ _ hi (by rw [Int.pow_succ, Int.mul_comm (256 ^ n) 256, ← Int.mul_assoc] at hw; exact hw) (by simp; omega)
      refine ⟨q1, q2, q3, q4, ?_⟩
      simp only [List.length_append, List.length_singleton] at q5
      omega
    · rw [if_neg hc, if_neg hc, if_neg hc]
      exact ⟨rfl, rfl, h, by simp only []; omega, by simp⟩
def encStep (st : List Int × Int × Int) (s : SSlot) : List Int × Int × Int :=
  if st.2.1 + st.2.2 / s.Total * s.Low ≥ 16777216 then emit 2 (carryF st.1) (st.2.1 + st.2.2 / s.Total * s.Low - 16777216) (widthI st.2.2 s) else emit 2 st.1 (st.2.1 + st.2.2 / s.Total * s.Low) (widthI st.2.2 s)
def enc (ls : List SSlot) : List Int × Int × Int := ls.foldl encStep ([], 0, 16777216)
/-- Behind a slot, before bytes go out: carried. -/
theorem carried {o : List Int} {l w : Int} {s : SSlot} (h : EInv o l w) (hw : 65536 ≤ w) (hs : SlotOk s) :
    (l + w / s.Total * s.Low < 16777216 → EInv o (l + w / s.Total * s.Low) (widthI w s)) ∧
    (l + w / s.Total * s.Low ≥ 16777216 → (∃ x ∈ o, x ≠ 255) ∧ EInv (carryF o) (l + w / s.Total * s.Low - 16777216) (widthI w s)) ∧ 64 ≤ widthI w s ∧ 0 ≤ w / s.Total * s.Low ∧ w / s.Total * s.Low ≤ 16777216 := by
  obtain ⟨h1, h2, h3, h4⟩ := h
  obtain ⟨n1, n2, n3, n4, n5⟩ := narrow_same ⟨hw, h3.2⟩ hs
  obtain ⟨m1, m2, m3, m4⟩ := unit_mul hw hs
  have hsum : w / s.Total * s.Low + widthI w s ≤ w := by
    unfold widthI
    split
    · omega
    · omega
  generalize w / s.Total * s.Low = u at *
  generalize widthI w s = v at *
  refine ⟨fun hc => ⟨h1, by omega, by omega, by omega⟩, fun hc => ?_, n4, m3, by omega⟩
  have hf : ∃ x ∈ o, x ≠ 255 := by
    have hpos := numR_pos (l := o.reverse) fun x hx => h1 x (by simpa using hx)
    obtain ⟨x, hx, hn⟩ := not_full (l := o.reverse) (k := 0) (by
      rw [List.length_reverse]
      generalize (256 : Int) ^ o.length = p at *
      omega)
    exact ⟨x, by simpa using hx, hn⟩
  refine ⟨hf, fun x hx => ?_, by omega, by omega, ?_⟩
  · unfold carryF at hx
    exact carryR_bytes (l := o.reverse) (fun x hx => h1 x (List.mem_reverse.1 hx)) x (List.mem_reverse.1 hx)
  · rw [carryF_len]
    unfold carryF
    rw [List.reverse_reverse, carryR_num (by obtain ⟨x, hx, hn⟩ := hf; exact ⟨x, by simpa using hx, hn⟩)]
    generalize (256 : Int) ^ o.length = p at *
    omega
theorem encStep_inv {o : List Int} {l w : Int} {s : SSlot} (h : EInv o l w) (hw : 65536 ≤ w) (hs : SlotOk s) (hl : o.length ≤ 90000) :
    EInv (encStep (o, l, w) s).1 (encStep (o, l, w) s).2.1 (encStep (o, l, w) s).2.2 ∧ 65536 ≤ (encStep (o, l, w) s).2.2 ∧ (encStep (o, l, w) s).1.length ≤ o.length + 2 := by
  obtain ⟨c1, c2, c3, c4, c5⟩ := carried h hw hs
  simp only [encStep]
  split
  · rename_i hc
    obtain ⟨_, c2⟩ := c2 hc
    obtain ⟨_, _, q3, q4, q5⟩ := emit_same (ls := []) (i1 := 0) (i2 := 0) (i3 := 0) 2 _ _ _ c2 (by simp only [Int.reducePow]; omega) (by rw [carryF_len]; omega)
    exact ⟨q3, q4, by rw [carryF_len] at q5; exact q5⟩
  · rename_i hc
    obtain ⟨_, _, q3, q4, q5⟩ := emit_same (ls := []) (i1 := 0) (i2 := 0) (i3 := 0) 2 _ _ _ (c1 (by omega)) (by simp only [Int.reducePow]; omega) (by omega)
    exact ⟨q3, q4, q5⟩
theorem enc_take {ls : List SSlot} {i : Nat} {s : SSlot} (h : ls[i]? = some s) : enc (ls.take (i + 1)) = encStep (enc (ls.take i)) s := by
  unfold enc
  rw [List.take_add_one, h]
  simp
theorem enc_inv {ls : List SSlot} (hs : ∀ s ∈ ls, SlotOk s) (hl : ls.length ≤ 40000) : ∀ i : Nat, EInv (enc (ls.take i)).1 (enc (ls.take i)).2.1 (enc (ls.take i)).2.2 ∧ 65536 ≤ (enc (ls.take i)).2.2 ∧ (enc (ls.take i)).1.length ≤ 2 * (min i ls.length)
  | 0 => by simp [enc, EInv, numR]
  | i + 1 => by
    obtain ⟨h1, h2, h3⟩ := enc_inv hs hl i
    rcases Nat.lt_or_ge i ls.length with h | h
    · obtain ⟨s, hx, hm⟩ := get_lt h
      rw [enc_take hx]
      generalize enc (ls.take i) = st at *
      obtain ⟨o, l, w⟩ := st
      have h3' : o.length ≤ 2 * min i ls.length := h3
      obtain ⟨q1, q2, q3⟩ := encStep_inv (o := o) (l := l) (w := w) h1 h2 (hs s hm) (by omega)
      exact ⟨q1, q2, by omega⟩
    · rw [List.take_of_length_le (by omega)] at h1 h2 h3 ⊢
      exact ⟨h1, h2, by omega⟩
theorem enc_loops {ls : List SSlot} (hs : ∀ s ∈ ls, SlotOk s) (hl : ls.length ≤ 40000) : loopO (spec_l3Encode_s5 ls) ([], 0, 16777216, 0) = some ((enc ls).1, (enc ls).2.1) ∧ loopO (impl_encode_s5 ls (ls.length : Int)) ([], 0, 16777216, 0) = some ((enc ls).1, (enc ls).2.1) := by
  obtain ⟨t, h1, h2, rfl⟩ := loop_same (step1 := impl_encode_s5 ls (ls.length : Int)) (step2 := spec_l3Encode_s5 ls) (fun i s => s = ((enc (ls.take i)).1, (enc (ls.take i)).2.1, (enc (ls.take i)).2.2, (i : Int)))
      (fun t => t = ((enc ls).1, (enc ls).2.1)) ls.length (by
    rintro i s hi rfl
    obtain ⟨g1, g2, g3⟩ := enc_inv hs hl i
    simp only [spec_l3Encode_s5, impl_encode_s5, decide_eq_true_eq]
    rcases Nat.lt_or_ge i ls.length with h | h
    · obtain ⟨s, hx, hm⟩ := get_lt h
      rw [enc_take hx]
      obtain ⟨c1, c2, c3, c4, c5⟩ := carried g1 g2 (hs s hm)
      obtain ⟨n1, n2, n3, n4, n5⟩ := narrow_same ⟨g2, g1.2.2.1.2⟩ (hs s hm)
      have ht : ¬ s.Total = 0 := by have := (hs s hm).1; omega
      have hlow := g1.2.1
      generalize enc (ls.take i) = st at *
      obtain ⟨o, l, w⟩ := st
      simp only [] at g1 g2 g3 c1 c2 c3 c4 c5 n1 n2 n3 n4 n5 hlow
      rw [if_pos (by omega), if_pos (by omega), getI_nat, hx]
      simp only [Option.bind_some]
      rw [if_neg ht, n3, n1, n2]
      simp only [Option.bind_some]
      rw [w64 (n := l + w / s.Total * s.Low) (by omega)]
      simp only [encStep]
      by_cases hc : l + w / s.Total * s.Low ≥ 16777216
      · obtain ⟨cf, c2⟩ := c2 hc
        obtain ⟨k1, k2⟩ := carry_same (l := o) (by omega) g1.1 cf
        rw [decide_eq_true hc]
        simp only [impl_encode_u3, spec_l3Encode_u3, if_true, k1, k2, Option.bind_some, carryF_len, if_pos hc]
        rw [w64 (n := l + w / s.Total * s.Low - 16777216) (by omega)]
        obtain ⟨q1, q2, q3, q4, q5⟩ := emit_same (ls := ls) (i1 := i) (i2 := ls.length) (i3 := i) 2 _ _ _ c2 (by simp only [Int.reducePow]; omega) (by rw [carryF_len]; omega)
        simp only [q1, q2, Option.bind_some]
        rw [w64 (n := (i : Int) + 1) (by omega)]
        exact ⟨by trivial, .inl ⟨h, _, rfl, by simp⟩⟩
      · rw [decide_eq_false hc]
        simp only [impl_encode_u3, spec_l3Encode_u3, Bool.false_eq_true, if_false, Option.bind_some, if_neg hc]
        obtain ⟨q1, q2, q3, q4, q5⟩ := emit_same (ls := ls) (i1 := i) (i2 := ls.length) (i3 := i) 2 _ _ _ (c1 (by omega)) (by simp only [Int.reducePow]; omega) (by omega)
        simp only [q1, q2, Option.bind_some]
        rw [w64 (n := (i : Int) + 1) (by omega)]
        exact ⟨by trivial, .inl ⟨h, _, rfl, by simp⟩⟩
    · obtain rfl : i = ls.length := by omega
      rw [if_neg (by omega), if_neg (by omega), List.take_length]
      exact ⟨rfl, .inr ⟨_, rfl, rfl⟩⟩) (s := ([], 0, 16777216, 0)) (by simp [enc])
  exact ⟨h2, h1⟩
/-- The bytes before zeros are cut. -/
def encRaw (ls : List SSlot) : List Int := (enc ls).1 ++ [(enc ls).2.1 / 65536, (enc ls).2.1 / 256 % 256, (enc ls).2.1 % 256]
def encBytes (ls : List SSlot) : List Int := (encRaw ls).take (trimN (encRaw ls) (encRaw ls).length)
theorem encode_same {ls : List SSlot} (hs : ∀ s ∈ ls, SlotOk s) (hl : ls.length ≤ 40000) : spec_l3Encode ls = some (encBytes ls) ∧ impl_encode ls = some (encBytes ls) ∧ (∀ x ∈ encBytes ls, 0 ≤ x ∧ x ≤ 255) ∧ (encBytes ls).length ≤ 100000 := by
  obtain ⟨h1, h2⟩ := enc_loops hs hl
  have gi := enc_inv hs hl ls.length
  rw [List.take_length] at gi
  obtain ⟨⟨g1, g2, g3, g4⟩, g5, g6⟩ := gi
  have e1 : IntKind.u8.wrap (IntKind.i64.wrap ((enc ls).2.1.tdiv 65536)) = (enc ls).2.1 / 65536 := by
    rw [Int.tdiv_eq_ediv_of_nonneg g2.1, w64 (by omega), wu8 (by omega)]
  have e2 : IntKind.u8.wrap ((IntKind.i64.wrap ((enc ls).2.1.tdiv 256)).tmod 256) = (enc ls).2.1 / 256 % 256 := by
    rw [Int.tdiv_eq_ediv_of_nonneg g2.1, w64 (by omega), Int.tmod_eq_emod_of_nonneg (by omega), wu8 (by omega)]
  have e3 : IntKind.u8.wrap ((enc ls).2.1.tmod 256) = (enc ls).2.1 % 256 := by
    rw [Int.tmod_eq_emod_of_nonneg g2.1, wu8 (by omega)]
  have f1 : IntKind.u8.wrap ((enc ls).2.1.fdiv (2 ^ (min 16 64))) = (enc ls).2.1 / 65536 := by
    rw [show min 16 64 = 16 by decide, fdiv_pow g2.1]
    generalize (enc ls).2.1 = l at *
    obtain ⟨n, rfl⟩ : ∃ n : Nat, l = n := ⟨l.toNat, by omega⟩
    rw [wu8 (by simp; omega)]; simp
  have u8m : ∀ n : Int, IntKind.u8.wrap n = n % 256 := fun n => by simp [IntKind.wrap, IntKind.bits, IntKind.signed]
  have f2 : IntKind.u8.wrap ((enc ls).2.1.fdiv (2 ^ (min 8 64))) = (enc ls).2.1 / 256 % 256 := by
    rw [show min 8 64 = 8 by decide, fdiv_pow g2.1, u8m]
    generalize (enc ls).2.1 = l at *
    obtain ⟨n, rfl⟩ : ∃ n : Nat, l = n := ⟨l.toNat, by omega⟩
    simp
  have f3 : IntKind.u8.wrap ((enc ls).2.1) = (enc ls).2.1 % 256 := u8m _
  have hlen : (encRaw ls).length ≤ 90000 := by simp [encRaw]; omega
  refine ⟨?_, ?_, fun x hx => ?_, ?_⟩
  · unfold spec_l3Encode
    rw [h1]
    simp only [Option.bind_some, e1, e2, e3]
    have he : (enc ls).1 ++ [(enc ls).2.1 / 65536, (enc ls).2.1 / 256 % 256, (enc ls).2.1 % 256] = encRaw ls := rfl
    rw [he, if_pos (okApp_of (by omega)), trim_spec (by omega) _ (by omega)]
    rfl
  · unfold impl_encode
    rw [h2]
    simp only [Option.bind_some, f1, f2, f3]
    have he : (enc ls).1 ++ [(enc ls).2.1 / 65536, (enc ls).2.1 / 256 % 256, (enc ls).2.1 % 256] = encRaw ls := rfl
    rw [he, if_pos (okApp_of (by omega)), trimRight_eq (by omega)]
    simp only [Option.bind_some]
    unfold slices_Clone_byte
    rw [if_pos (okApp_of (by rw [List.length_take]; omega))]
    rfl
  · have hx := List.mem_of_mem_take hx
    unfold encRaw at hx
    rcases List.mem_append.1 hx with hx | hx
    · exact g1 x hx
    · simp at hx; omega
  · unfold encBytes; rw [List.length_take]; omega
theorem slotFault_all (s : SSlot) : impl_SlotFault s = spec_SlotFault s ∧ (spec_SlotFault s = 0 ↔ SlotOk s) := by
  unfold impl_SlotFault spec_SlotFault SlotOk
  simp only [impl_SlotFault_u1, spec_SlotFault_u1, spec_l1In_eq, impl_inRange_eq, impl_codeIf_eq, decide_eq_true_eq]
  by_cases h1 : 1 ≤ s.Total ∧ s.Total ≤ 1024
  · by_cases h2 : 1 ≤ s.Size ∧ s.Size ≤ s.Total
    · rw [w64 (by omega)]
      by_cases h3 : 0 ≤ s.Low ∧ s.Low ≤ s.Total - s.Size <;> simp [h1, h2, h3]
    · simp [h1, h2]
  · simp [h1]
theorem tmod_nn {a b : Int} (ha : 0 ≤ a) (hb : 0 < b) : 0 ≤ a.tmod b ∧ a.tmod b < b := by
  rw [Int.tmod_eq_emod_of_nonneg ha]
  exact ⟨Int.emod_nonneg _ (by omega), Int.emod_lt_of_pos _ hb⟩
def SrcOk (c : List Int) (s : Sl1Src) (k : Int) : Prop := s.Code = c ∧ 0 ≤ s.At ∧ s.At ≤ k
theorem get_mod {c : List Int} {a : Int} (hc : ∀ x ∈ c, 0 ≤ x ∧ x ≤ 255) (ha : 0 ≤ a) (hn : 0 < c.length) : ∃ x, getI c (a.tmod (c.length : Int)) = some x ∧ 0 ≤ x ∧ x ≤ 255 := by
  obtain ⟨h1, h2⟩ := tmod_nn ha (b := (c.length : Int)) (by omega)
  obtain ⟨x, hx, hm⟩ := get_lt (l := c) (i := (a.tmod (c.length : Int)).toNat) (by omega)
  exact ⟨x, by unfold getI; rw [if_pos h1, hx], hc x hm⟩
theorem next_ok {c : List Int} {s : Sl1Src} {k p : Int} (hc : ∀ x ∈ c, 0 ≤ x ∧ x ≤ 255) (hl : (c.length : Int) ≤ 2000000) (hs : SrcOk c s k) (hk : k ≤ 1000000) (hp : 1 ≤ p ∧ p ≤ 100000000) :
    ∃ r, spec_l1Next s p = some (r, ⟨c, s.At + 1⟩) ∧ 0 ≤ r ∧ r < p := by
  obtain ⟨rfl, h0, h1⟩ := hs
  have e1 : IntKind.i64.wrap (s.At + 1) = s.At + 1 := w64 (by omega)
  have e2 : IntKind.i64.wrap (s.At + 1 - 1) = s.At := by rw [w64 (by omega)]; omega
  unfold spec_l1Next
  rw [if_neg (by simp; omega)]
  simp only [e1, e2]
  rcases Nat.eq_zero_or_pos s.Code.length with hz | hz
  · rw [if_pos (by simp [hz]), if_neg (by omega), w64 (by omega)]
    obtain ⟨q1, q2⟩ := tmod_nn (a := s.At * 7) (b := p) (by omega) (by omega)
    exact ⟨_, rfl, q1, q2⟩
  · have hne : ¬ (s.Code.length : Int) = 0 := by omega
    rw [if_neg (by simp; intro h; rw [h] at hz; simp at hz)]
    simp only [hne, if_false]
    obtain ⟨x, hx, hx0, hx1⟩ := get_mod hc h0 hz
    rw [hx]
    simp only [Option.bind_some]
    have hd : 0 ≤ s.At.tdiv (s.Code.length : Int) ∧ s.At.tdiv (s.Code.length : Int) ≤ s.At := by
      rw [Int.tdiv_eq_ediv_of_nonneg h0]
      exact ⟨Int.ediv_nonneg h0 (by omega), Int.ediv_le_self _ h0⟩
    generalize s.At.tdiv (s.Code.length : Int) = d at hd
    rw [w64 (n := x) (by omega), w64 (n := d) (by omega), w64 (n := d * 37) (by omega), w64 (n := x + d * 37) (by omega)]
    have u1 : ∃ v, spec_l1Next_u1 s.Code (s.At + 1) p s.At (s.Code.length : Int) (x + d * 37) (decide (p > 200)) = some v ∧ 0 ≤ v ∧ v ≤ 10000000000 := by
      unfold spec_l1Next_u1
      split
      · rw [w64 (n := s.At + 1) (by omega)]
        obtain ⟨y, hy, hy0, hy1⟩ := get_mod (a := s.At + 1) hc (by omega) hz
        rw [hy]
        simp only [Option.bind_some]
        rw [w64 (n := y) (by omega), w64 (n := y * 13) (by omega), w64 (n := (x + d * 37) * 251) (by omega), w64 (n := (x + d * 37) * 251 + y * 13) (by omega), w64 (n := (x + d * 37) * 251 + y * 13 + s.At) (by omega)]
        exact ⟨_, rfl, by omega, by omega⟩
      · exact ⟨_, rfl, by omega, by omega⟩
    obtain ⟨v, hv, hv0, hv1⟩ := u1
    rw [hv]
    simp only [Option.bind_some]
    have u2 : ∃ v', spec_l1Next_u2 s.Code (s.At + 1) p s.At (s.Code.length : Int) v (decide (p > 60000)) = some v' ∧ 0 ≤ v' := by
      unfold spec_l1Next_u2
      split
      · rw [w64 (n := s.At + 2) (by omega)]
        obtain ⟨y, hy, hy0, hy1⟩ := get_mod (a := s.At + 2) hc (by omega) hz
        rw [hy]
        simp only [Option.bind_some]
        rw [w64 (n := y) (by omega), w64 (n := v * 257) (by omega), w64 (n := v * 257 + y) (by omega)]
        exact ⟨_, rfl, by omega⟩
      · exact ⟨_, rfl, hv0⟩
    obtain ⟨v', hv', hv'0⟩ := u2
    rw [hv']
    simp only [Option.bind_some]
    rw [if_neg (by omega)]
    obtain ⟨q1, q2⟩ := tmod_nn (a := v') (b := p) hv'0 (by omega)
    exact ⟨_, rfl, q1, q2⟩
theorem pick_ok {c : List Int} {s : Sl1Src} {k : Int} {l : List Int} (hc : ∀ x ∈ c, 0 ≤ x ∧ x ≤ 255) (hl : (c.length : Int) ≤ 2000000) (hs : SrcOk c s k) (hk : k ≤ 1000000) (hn : 0 < l.length ∧ l.length ≤ 1000000) :
    ∃ r s', spec_l1Pick s l = some (r, s') ∧ r ∈ l ∧ SrcOk c s' (k + 1) := by
  unfold spec_l1Pick
  obtain ⟨r, h1, h2, h3⟩ := next_ok (p := (l.length : Int)) hc hl hs hk (by omega)
  obtain ⟨x, hx, hm⟩ := get_lt (l := l) (i := r.toNat) (by omega)
  rw [h1]
  obtain ⟨_, a1, a2⟩ := hs
  refine ⟨x, ⟨c, s.At + 1⟩, ?_, hm, rfl, by (first | omega | (simp only []; omega)), by (first | omega | (simp only []; omega))⟩
  simp only [Option.bind_some]
  unfold getI
  rw [if_pos h2, hx]; rfl
theorem source_ok {c : List Int} : SrcOk c (spec_l1Source c) 0 := by unfold SrcOk spec_l1Source; simp
theorem next_ok2 {c : List Int} {s : Sl1Src} {k p : Int} (hc : ∀ x ∈ c, 0 ≤ x ∧ x ≤ 255) (hl : (c.length : Int) ≤ 2000000) (hs : SrcOk c s k) (hk : k ≤ 1000000) (hp : 1 ≤ p ∧ p ≤ 100000000) :
    ∃ r s', spec_l1Next s p = some (r, s') ∧ 0 ≤ r ∧ r < p ∧ SrcOk c s' (k + 1) := by
  obtain ⟨r, h1, h2, h3⟩ := next_ok hc hl hs hk hp
  obtain ⟨_, a1, a2⟩ := hs
  exact ⟨r, _, h1, h2, h3, rfl, by (first | omega | (simp only []; omega)), by (first | omega | (simp only []; omega))⟩
theorem SrcOk.mono {c : List Int} {s : Sl1Src} {k m : Int} (h : SrcOk c s k) (hm : k ≤ m) : SrcOk c s m := ⟨h.1, h.2.1, by have := h.2.2; omega⟩
theorem src_eta (t : Sl1Src) : Sl1Src.mk t.Code t.At = t := rfl
theorem chance_ok {c : List Int} {s : Sl1Src} {k p : Int} (hc : ∀ x ∈ c, 0 ≤ x ∧ x ≤ 255) (hl : (c.length : Int) ≤ 2000000) (hs : SrcOk c s k) (hk : k ≤ 1000000) (hp : 1 ≤ p ∧ p ≤ 100000000) :
    ∃ b s', spec_l1Chance s p = some (b, s') ∧ SrcOk c s' (k + 1) := by
  unfold spec_l1Chance
  obtain ⟨r, s', h, _, _, k'⟩ := next_ok2 hc hl hs hk hp
  rw [h]; exact ⟨_, _, rfl, k'⟩
theorem drawSlot_ok {c : List Int} {s : Sl1Src} {k : Int} (hc : ∀ x ∈ c, 0 ≤ x ∧ x ≤ 255) (hl : (c.length : Int) ≤ 2000000) (hs : SrcOk c s k) (hk : k ≤ 900000) :
    ∃ x s', spec_l3Slot s = some (x, s') ∧ SrcOk c s' (k + 6) := by
  unfold spec_l3Slot
  obtain ⟨r1, s1, h1, a1, b1, k1⟩ := next_ok2 (p := 300) hc hl hs (by omega) (by omega)
  obtain ⟨r2, s2, h2, m2, k2⟩ := pick_ok (l := [1, 2, 3, 256, 1000, 1024, (IntKind.i64.wrap (1 + r1))]) hc hl k1 (by omega) (by simp)
  have hr2 : 1 ≤ r2 ∧ r2 ≤ 1024 := by rw [w64 (by omega)] at m2; simp at m2; omega
  obtain ⟨r3, s3, h3, a3, b3, k3⟩ := next_ok2 (p := r2) hc hl k2 (by omega) (by omega)
  obtain ⟨b, s4, h4, k4⟩ := chance_ok (p := 2) hc hl k3 (by omega) (by omega)
  simp only [h1, h2, h3, h4, Option.bind_some, spec_l3Slot_u1, spec_l3Slot_u2]
  rw [w64 (n := 1 + r3) (by omega)]
  have hy : ∃ y : Int, (if b = true then 1 else 1 + r3) = y ∧ 1 ≤ y ∧ y ≤ r2 := ⟨_, rfl, by split <;> omega, by split <;> omega⟩
  obtain ⟨y, hy, y1, y2⟩ := hy
  rw [hy, w64 (n := r2 - y) (by omega), w64 (n := r2 - y + 1) (by omega)]
  obtain ⟨r5, s5, h5, a5, b5, k5⟩ := next_ok2 (p := r2 - y + 1) hc hl k4 (by omega) (by omega)
  obtain ⟨b6, s6, h6, k6⟩ := chance_ok (p := 4) hc hl k5 (by omega) (by omega)
  simp only [h5, h6, Option.bind_some]
  exact ⟨_, _, rfl, k6.mono (by omega)⟩
theorem drawBentSlot_ok {c : List Int} {s : Sl1Src} {k : Int} (hc : ∀ x ∈ c, 0 ≤ x ∧ x ≤ 255) (hl : (c.length : Int) ≤ 2000000) (hs : SrcOk c s k) (hk : k ≤ 900000) :
    ∃ x s', spec_l3BentSlot s = some (x, s') ∧ SrcOk c s' (k + 8) := by
  unfold spec_l3BentSlot
  obtain ⟨x, s1, h1, k1⟩ := drawSlot_ok hc hl hs hk
  obtain ⟨r2, s2, h2, _, _, k2⟩ := next_ok2 (p := 30) hc hl k1 (by omega) (by omega)
  simp only [h1, h2, Option.bind_some, spec_l3BentSlot_u2, spec_l3BentSlot_u1, src_eta]
  obtain ⟨x1, t1, e1, _, n1⟩ := pick_ok (l := [0, 1025, (-1)]) hc hl k2 (by omega) (by simp)
  obtain ⟨x2, t2, e2, _, n2⟩ := pick_ok (l := [0, (IntKind.i64.wrap (x.Total + 1)), 9223372036854775807]) hc hl k2 (by omega) (by simp)
  obtain ⟨x3, t3, e3, _, n3⟩ := pick_ok (l := [(-1), x.Total, 9223372036854775807]) hc hl k2 (by omega) (by simp)
  simp only [e1, e2, e3, Option.bind_some]
  split
  · exact ⟨_, _, rfl, n1.mono (by omega)⟩
  · split
    · exact ⟨_, _, rfl, n2.mono (by omega)⟩
    · split
      · exact ⟨_, _, rfl, n3.mono (by omega)⟩
      · exact ⟨_, _, rfl, k2.mono (by omega)⟩
theorem value_impl {d : SDecoder} (h : DecOk d) {t : Int} (ht : 1 ≤ t ∧ t ≤ 1024) : impl_Decoder_value d t = some (valI d t) := by
  obtain ⟨_, _, h3, h4⟩ := h
  obtain ⟨u1, u2⟩ := unit_ge h3.1 ht
  unfold impl_Decoder_value valI
  rw [Int.tdiv_eq_ediv_of_nonneg (by omega)]
  generalize d.Range / t = u at *
  have n1 : ¬ t = 0 := by omega
  have n2 : ¬ u = 0 := by omega
  rw [w64 (n := u) (by omega)]
  simp only [n1, n2, if_false]
  rw [Int.tdiv_eq_ediv_of_nonneg h4.1]
  have e1 : 0 ≤ d.Rest / u := Int.ediv_nonneg h4.1 (by omega)
  have e2 : d.Rest / u ≤ d.Rest := Int.ediv_le_self _ h4.1
  generalize d.Rest / u = v at *
  rw [w64 (n := v) (by omega), w64 (n := t - 1) (by omega)]
  simp only [mnI, decide_eq_true_eq]
  by_cases c : v < t - 1
  · simp only [c, if_true]; rw [if_neg (by omega)]
  · simp only [c, if_false]
    split
    · rfl
    · congr 1; omega
/-- How many bytes go out. -/
def cnt : Nat → Int → Nat
  | 0, _ => 0
  | n + 1, w => if w < 65536 then cnt n (w * 256) + 1 else 0
def EN (o : List Int) (l : Int) : Int := numR o.reverse * 16777216 + l
theorem emit_num : ∀ (n : Nat) (o : List Int) (l w : Int), (emit n o l w).1.length = o.length + cnt n w ∧ EN (emit n o l w).1 (emit n o l w).2.1 = EN o l * 256 ^ cnt n w ∧ (emit n o l w).2.2 = w * 256 ^ cnt n w
  | 0, o, l, w => by simp [emit, cnt]
  | n + 1, o, l, w => by
    simp only [emit, cnt]
    by_cases h : w < 65536
    · simp only [h, if_true]
      obtain ⟨q1, q2, q3⟩ := emit_num n (o ++ [l / 65536]) (l % 65536 * 256) (w * 256)
      have e : EN (o ++ [l / 65536]) (l % 65536 * 256) = EN o l * 256 := by
        unfold EN; rw [numR_cons]; omega
      refine ⟨by rw [q1, List.length_append, List.length_singleton]; omega, ?_, ?_⟩
      · rw [q2, e, Int.pow_succ, Int.mul_assoc, Int.mul_comm 256]
      · rw [q3, Int.pow_succ, Int.mul_assoc, Int.mul_comm 256]
    · simp [h]
theorem encStep_num {o : List Int} {l w : Int} {s : SSlot} (h : EInv o l w) (hw : 65536 ≤ w) (hs : SlotOk s) :
    (encStep (o, l, w) s).1.length = o.length + cnt 2 (widthI w s) ∧ EN (encStep (o, l, w) s).1 (encStep (o, l, w) s).2.1 = (EN o l + w / s.Total * s.Low) * 256 ^ cnt 2 (widthI w s) ∧ (encStep (o, l, w) s).2.2 = widthI w s * 256 ^ cnt 2 (widthI w s) := by
  obtain ⟨c1, c2, c3, c4, c5⟩ := carried h hw hs
  simp only [encStep]
  split
  · rename_i hc
    obtain ⟨⟨x, hx, hn⟩, _⟩ := c2 hc
    obtain ⟨q1, q2, q3⟩ := emit_num 2 (carryF o) (l + w / s.Total * s.Low - 16777216) (widthI w s)
    refine ⟨by rw [q1, carryF_len], ?_, q3⟩
    rw [q2]
    congr 1
    unfold EN carryF
    rw [List.reverse_reverse, carryR_num ⟨x, by simpa using hx, hn⟩]
    omega
  · obtain ⟨q1, q2, q3⟩ := emit_num 2 o (l + w / s.Total * s.Low) (widthI w s)
    refine ⟨q1, ?_, q3⟩
    rw [q2]
    congr 1
    unfold EN; omega
theorem width_sum {w : Int} {s : SSlot} (hw : 65536 ≤ w) (hs : SlotOk s) : w / s.Total * s.Low + widthI w s ≤ w ∧ w * 64513 ≤ widthI w s * 67108864 := by
  obtain ⟨m1, m2, m3, m4⟩ := unit_mul hw hs
  have hu : w / s.Total ≤ widthI w s := by
    unfold widthI
    have hsz := hs.2.1
    have hul := unit_ge hw hs.1
    have h2 := Int.mul_le_mul_of_nonneg_left hsz.1 (show 0 ≤ w / s.Total by omega)
    rw [Int.mul_one] at h2
    split
    · omega
    · exact h2
  have hd : w - 1023 ≤ w / s.Total * 1024 := by
    have ht := hs.1
    have e := Int.emod_add_mul_ediv w s.Total
    have e2 := Int.emod_lt_of_pos w (show 0 < s.Total by omega)
    have e3 := Int.mul_le_mul_of_nonneg_right (show s.Total ≤ 1024 by omega) (show 0 ≤ w / s.Total by exact Int.ediv_nonneg (by omega) (by omega))
    have e4 : s.Total * (w / s.Total) ≤ w / s.Total * 1024 := by rw [Int.mul_comm (w / s.Total)]; exact e3
    have e5 := Int.emod_nonneg w (show s.Total ≠ 0 by omega)
    by_cases h1 : s.Total = 1024
    · rw [h1] at e e2 ⊢; omega
    · have e6 : (w / s.Total) * (s.Total + 1) ≤ w / s.Total * 1024 := Int.mul_le_mul_of_nonneg_left (by omega) (Int.ediv_nonneg (by omega) (by omega))
      rw [Int.mul_add, Int.mul_one] at e6
      rw [Int.mul_comm s.Total] at e
      have hul := unit_ge hw hs.1
      omega
  refine ⟨?_, by omega⟩
  unfold widthI
  split
  · omega
  · omega
theorem pow_pos256 {k : Nat} : (0 : Int) < 256 ^ k := Int.pow_pos (by decide)
/-- From one state of the encoder to a later one. -/
theorem nest {ls : List SSlot} (hs : ∀ s ∈ ls, SlotOk s) (hl : ls.length ≤ 40000) (i : Nat) : ∀ d : Nat, i + d ≤ ls.length → ∃ K, (enc (ls.take (i + d))).1.length = (enc (ls.take i)).1.length + K ∧
    EN (enc (ls.take i)).1 (enc (ls.take i)).2.1 * 256 ^ K ≤ EN (enc (ls.take (i + d))).1 (enc (ls.take (i + d))).2.1 ∧
    EN (enc (ls.take (i + d))).1 (enc (ls.take (i + d))).2.1 + (enc (ls.take (i + d))).2.2 ≤ (EN (enc (ls.take i)).1 (enc (ls.take i)).2.1 + (enc (ls.take i)).2.2) * 256 ^ K
  | 0, h => ⟨0, by simp⟩
  | d + 1, h => by
    obtain ⟨K, h1, h2, h3⟩ := nest hs hl i d (by omega)
    obtain ⟨g1, g2, g3⟩ := enc_inv hs hl (i + d)
    obtain ⟨s, hx, hm⟩ := get_lt (l := ls) (i := i + d) (by omega)
    rw [show i + (d + 1) = i + d + 1 by omega, enc_take hx]
    generalize enc (ls.take (i + d)) = st at *
    obtain ⟨o, l, w⟩ := st
    obtain ⟨q1, q2, q3⟩ := encStep_num (o := o) (l := l) (w := w) g1 g2 (hs s hm)
    obtain ⟨m1, m2, m3, m4⟩ := unit_mul g2 (hs s hm)
    obtain ⟨w1, _⟩ := width_sum g2 (hs s hm)
    simp only [] at h1 h2 h3 m3 w1
    have hp := pow_pos256 (k := cnt 2 (widthI w s))
    refine ⟨K + cnt 2 (widthI w s), by rw [q1, h1]; omega, ?_, ?_⟩
    · rw [q2, Int.pow_add, ← Int.mul_assoc]
      exact Int.mul_le_mul_of_nonneg_right (by omega) (by omega)
    · rw [q2, q3, ← Int.add_mul, Int.pow_add, ← Int.mul_assoc]
      exact Int.mul_le_mul_of_nonneg_right (by omega) (by omega)
/-- The first bytes as one number. -/
def pre (l : List Int) : Nat → Int
  | 0 => 0
  | m + 1 => pre l m * 256 + byteAt l (m : Int)
theorem pre_rev : ∀ (r c : List Int), pre (r.reverse ++ c) r.length = numR r
  | [], c => rfl
  | x :: r, c => by
    have h := pre_rev r (x :: c)
    have e : (x :: r).reverse ++ c = r.reverse ++ x :: c := by simp
    rw [e]
    simp only [List.length_cons, pre, numR, h]
    have hb : byteAt (r.reverse ++ x :: c) (r.length : Int) = x := by
      unfold byteAt; rw [Int.toNat_natCast]; simp
    rw [hb]; omega
theorem pre_all {l : List Int} : pre l l.length = numR l.reverse := by
  have := pre_rev l.reverse []
  simpa using this
theorem pre_bounds {l : List Int} (hb : ∀ x ∈ l, 0 ≤ x ∧ x ≤ 255) (m : Nat) : ∀ k : Nat, pre l m * 256 ^ k ≤ pre l (m + k) ∧ pre l (m + k) + 1 ≤ (pre l m + 1) * 256 ^ k
  | 0 => by simp
  | k + 1 => by
    obtain ⟨h1, h2⟩ := pre_bounds hb m k
    obtain ⟨b0, b1⟩ := byteAt_ok (l := l) (a := ((m + k : Nat) : Int)) hb
    rw [Int.pow_succ, ← Int.mul_assoc, ← Int.mul_assoc]
    show pre l m * 256 ^ k * 256 ≤ pre l (m + k) * 256 + byteAt l ((m + k : Nat) : Int) ∧ pre l (m + k) * 256 + byteAt l ((m + k : Nat) : Int) + 1 ≤ (pre l m + 1) * 256 ^ k * 256
    omega
theorem pre_nonneg {l : List Int} (hb : ∀ x ∈ l, 0 ≤ x ∧ x ≤ 255) : ∀ m : Nat, 0 ≤ pre l m
  | 0 => by simp [pre]
  | m + 1 => by
    have := pre_nonneg hb m
    obtain ⟨b0, b1⟩ := byteAt_ok (l := l) (a := (m : Int)) hb
    simp only [pre]; omega
theorem pre_congr {l m : List Int} (h : ∀ j : Nat, byteAt l (j : Int) = byteAt m (j : Int)) : ∀ k : Nat, pre l k = pre m k
  | 0 => rfl
  | k + 1 => by simp only [pre, pre_congr h k, h k]
theorem sandwich {A B p N P : Int} (hP : 0 < P) (h1 : A * P ≤ N) (h2 : N < B * P) (h3 : p * P ≤ N) (h4 : N + 1 ≤ (p + 1) * P) : A ≤ p ∧ p < B := by
  have a : A < p + 1 := Int.lt_of_mul_lt_mul_right (a := P) (by omega) (by omega)
  have b : p < B := Int.lt_of_mul_lt_mul_right (a := P) (by omega) (by omega)
  exact ⟨by omega, b⟩
theorem trimN_le {l : List Int} : ∀ k : Nat, trimN l k ≤ k
  | 0 => by simp [trimN]
  | k + 1 => by
    have := trimN_le (l := l) k
    simp only [trimN]
    split <;> omega
theorem trimN_zero {l : List Int} : ∀ k : Nat, ∀ m : Nat, trimN l k ≤ m → m < k → l[m]? = some 0
  | 0, m, h1, h2 => by omega
  | k + 1, m, h1, h2 => by
    simp only [trimN] at h1
    split at h1
    · rename_i h0
      rcases Nat.lt_or_ge m k with h | h
      · exact trimN_zero k m h1 h
      · obtain rfl : m = k := by omega
        exact h0
    · omega
theorem trimN_last {l : List Int} : ∀ k : Nat, 0 < trimN l k → l[trimN l k - 1]? ≠ some 0
  | 0, h => by simp [trimN] at h
  | k + 1, h => by
    simp only [trimN] at h ⊢
    split
    · rename_i h0
      rw [if_pos h0] at h
      exact trimN_last k h
    · rename_i h0
      simpa using h0
theorem byte_trim {l : List Int} (j : Nat) : byteAt (l.take (trimN l l.length)) (j : Int) = byteAt l (j : Int) := by
  unfold byteAt
  rw [Int.toNat_natCast]
  rcases Nat.lt_or_ge j (trimN l l.length) with h | h
  · rw [List.getElem?_take_of_lt h]
  · rw [List.getElem?_eq_none (by rw [List.length_take]; omega)]
    rcases Nat.lt_or_ge j l.length with h2 | h2
    · rw [trimN_zero _ _ h h2]; rfl
    · rw [List.getElem?_eq_none h2]
theorem raw_num {ls : List SSlot} (hs : ∀ s ∈ ls, SlotOk s) (hl : ls.length ≤ 40000) : (encRaw ls).length = (enc ls).1.length + 3 ∧ pre (encBytes ls) ((enc ls).1.length + 3) = EN (enc ls).1 (enc ls).2.1 ∧ ∀ x ∈ encRaw ls, 0 ≤ x ∧ x ≤ 255 := by
  obtain ⟨g1, g2, g3⟩ := enc_inv hs hl ls.length
  rw [List.take_length] at g1 g2 g3
  have hlen : (encRaw ls).length = (enc ls).1.length + 3 := by simp [encRaw]
  refine ⟨hlen, ?_, fun x hx => ?_⟩
  · have e : pre (encBytes ls) ((enc ls).1.length + 3) = pre (encRaw ls) ((enc ls).1.length + 3) := pre_congr (fun j => byte_trim j) _
    rw [e, ← hlen, pre_all]
    have hlo := g1.2.1
    unfold encRaw EN
    simp only [List.reverse_append, List.reverse_cons, List.reverse_nil, List.nil_append, List.cons_append, numR]
    omega
  · unfold encRaw at hx
    have hlo := g1.2.1
    rcases List.mem_append.1 hx with hx | hx
    · exact g1.1 x hx
    · simp at hx; omega
theorem turn_exact {l : List Int} (hb : ∀ x ∈ l, 0 ≤ x ∧ x ≤ 255) : ∀ (n a : Nat) (w M : Int), 65536 ≤ w * 256 ^ n → 0 < w → w ≤ 16777216 → 0 ≤ pre l a - M → pre l a - M < w → a + n ≤ 100000 →
    loopO impl_Decoder_take_o_s2 (l, (a : Int), pre l a - M, w) = some (l, ((a + cnt n w : Nat) : Int), pre l (a + cnt n w) - M * 256 ^ cnt n w, w * 256 ^ cnt n w)
  | 0, a, w, M, h1, h2, h3, h4, h5, h6 => by
    have h1' : 65536 ≤ w := by simpa using h1
    rw [loopO_eq, impl_Decoder_take_o_s2]; simp only [decide_eq_true_eq]; rw [if_neg (by omega)]
    simp [cnt]
  | n + 1, a, w, M, h1, h2, h3, h4, h5, h6 => by
    by_cases hw : w < 65536
    · obtain ⟨b0, b1⟩ := byteAt_ok (l := l) (a := (a : Int)) hb
      have e : (pre l a - M) * 256 + byteAt l (a : Int) = pre l (a + 1) - M * 256 := by simp only [pre]; omega
      have ih := turn_exact hb n (a + 1) (w * 256) (M * 256) (by rw [Int.pow_succ, Int.mul_comm (256 ^ n) 256, ← Int.mul_assoc] at h1; exact h1) (by omega) (by omega) (by omega) (by omega) (by omega)
      rw [loopO_eq, impl_Decoder_take_o_s2]
      simp only [decide_eq_true_eq, impl_Decoder_take_o_u1]
      rw [if_pos hw, next_impl (d := ⟨l, (a : Int), pre l a - M, w⟩) hb ⟨by simp only []; omega, by simp only []; omega⟩, w64 (n := (pre l a - M) * 256) (by omega), w64 (n := w * 256) (by omega)]
      simp only [Option.bind_some]
      rw [w64 (by omega), e]
      have e2 : ((a : Int) + 1) = ((a + 1 : Nat) : Int) := by omega
      rw [e2, ih]
      simp only [cnt, hw, if_true]
      have e3 : a + 1 + cnt n (w * 256) = a + (cnt n (w * 256) + 1) := by omega
      rw [e3, Int.pow_succ, Int.mul_assoc, Int.mul_assoc, Int.mul_comm 256 (256 ^ _)]
    · rw [loopO_eq, impl_Decoder_take_o_s2]; simp only [decide_eq_true_eq]; rw [if_neg (by omega)]
      simp [cnt, hw]
/-- What the decoder holds behind i slots. -/
def decAt (ls : List SSlot) (i : Nat) : SDecoder := ⟨encBytes ls, (((enc (ls.take i)).1.length + 3 : Nat) : Int), pre (encBytes ls) ((enc (ls.take i)).1.length + 3) - EN (enc (ls.take i)).1 (enc (ls.take i)).2.1, (enc (ls.take i)).2.2⟩
theorem bytes_ok {ls : List SSlot} (hs : ∀ s ∈ ls, SlotOk s) (hl : ls.length ≤ 40000) : ∀ x ∈ encBytes ls, 0 ≤ x ∧ x ≤ 255 := fun x hx => (raw_num hs hl).2.2 x (List.mem_of_mem_take hx)
theorem dec_bounds {ls : List SSlot} (hs : ∀ s ∈ ls, SlotOk s) (hl : ls.length ≤ 40000) {i : Nat} (hi : i ≤ ls.length) :
    0 ≤ (decAt ls i).Rest ∧ (decAt ls i).Rest < (decAt ls i).Range := by
  obtain ⟨K, h1, h2, h3⟩ := nest hs hl i (ls.length - i) (by omega)
  rw [show i + (ls.length - i) = ls.length by omega, List.take_length] at h1 h2 h3
  obtain ⟨r1, r2, r3⟩ := raw_num hs hl
  obtain ⟨g1, g2, _⟩ := enc_inv hs hl ls.length
  rw [List.take_length] at g1 g2
  obtain ⟨p1, p2⟩ := pre_bounds (bytes_ok hs hl) ((enc (ls.take i)).1.length + 3) K
  rw [show (enc (ls.take i)).1.length + 3 + K = (enc ls).1.length + 3 by omega, r2] at p1 p2
  obtain ⟨a, b⟩ := sandwich (pow_pos256 (k := K)) h2 (Int.lt_of_lt_of_le (by omega) h3) p1 p2
  simp only [decAt]; omega
/-- One slot: it is told, and taken. -/
theorem dec_step {ls : List SSlot} (hs : ∀ s ∈ ls, SlotOk s) (hl : ls.length ≤ 400) (hd : (encBytes ls).length ≤ 600) {i : Nat} {s : SSlot} (hx : ls[i]? = some s) :
    DecOk (decAt ls i) ∧ (decAt ls i).At ≤ 9000 ∧ s.Low ≤ valI (decAt ls i) s.Total ∧ valI (decAt ls i) s.Total ≤ s.Low + s.Size - 1 ∧ impl_Decoder_take_o (decAt ls i) s = some ((decAt ls (i + 1)).Data, (decAt ls (i + 1)).At, (decAt ls (i + 1)).Rest, (decAt ls (i + 1)).Range) := by
  have hi : i < ls.length := (List.getElem?_eq_some_iff.1 hx).1
  have hso := hs s (List.mem_of_getElem? hx)
  obtain ⟨g1, g2, g3⟩ := enc_inv hs (by omega) i
  obtain ⟨b1, b2⟩ := dec_bounds hs (by omega) (i := i) (by omega)
  have hr : (decAt ls i).Range = (enc (ls.take i)).2.2 := rfl
  have hok : DecOk (decAt ls i) := ⟨hd, ⟨Int.natCast_nonneg _, by show (((enc (ls.take i)).1.length + 3 : Nat) : Int) ≤ 10000; omega⟩, ⟨g2, g1.2.2.1.2⟩, by omega⟩
  -- what the next state says
  have key : (enc (ls.take i)).2.2 / s.Total * s.Low ≤ (decAt ls i).Rest ∧ (decAt ls i).Rest < (enc (ls.take i)).2.2 / s.Total * s.Low + widthI (enc (ls.take i)).2.2 s := by
    obtain ⟨K, h1, h2, h3⟩ := nest hs (by omega) (i + 1) (ls.length - (i + 1)) (by omega)
    rw [show i + 1 + (ls.length - (i + 1)) = ls.length by omega, List.take_length] at h1 h2 h3
    rw [enc_take hx] at h1 h2 h3
    obtain ⟨r1, r2, r3⟩ := raw_num hs (by omega)
    obtain ⟨_, gn, _⟩ := enc_inv hs (by omega) ls.length
    rw [List.take_length] at gn
    obtain ⟨p1, p2⟩ := pre_bounds (bytes_ok hs (by omega)) ((enc (ls.take i)).1.length + 3) (cnt 2 (widthI (enc (ls.take i)).2.2 s) + K)
    simp only [decAt]
    generalize enc (ls.take i) = st at *
    obtain ⟨o, l, w⟩ := st
    obtain ⟨q1, q2, q3⟩ := encStep_num (o := o) (l := l) (w := w) g1 g2 hso
    rw [q1] at h1
    rw [q2, Int.mul_assoc, ← Int.pow_add] at h2
    rw [q2, q3, ← Int.add_mul, Int.mul_assoc, ← Int.pow_add] at h3
    simp only [] at p1 p2
    rw [show o.length + 3 + (cnt 2 (widthI w s) + K) = (enc ls).1.length + 3 by omega, r2] at p1 p2
    obtain ⟨a, b⟩ := sandwich (pow_pos256 (k := cnt 2 (widthI w s) + K)) h2 (Int.lt_of_lt_of_le (by omega) h3) p1 p2
    simp only []
    omega
  obtain ⟨k1, k2⟩ := key
  obtain ⟨n1, n2, n3, n4, n5⟩ := narrow_same ⟨g2, g1.2.2.1.2⟩ hso
  obtain ⟨m1, m2, m3, m4⟩ := unit_mul g2 hso
  obtain ⟨u1, u2⟩ := unit_ge g2 hso.1
  refine ⟨hok, by show (((enc (ls.take i)).1.length + 3 : Nat) : Int) ≤ 9000; omega, ?_, ?_, ?_⟩
  · unfold valI
    rw [hr]
    have q : s.Low ≤ (decAt ls i).Rest / ((enc (ls.take i)).2.2 / s.Total) := Int.le_ediv_of_mul_le (by omega) (by rw [Int.mul_comm]; exact k1)
    have := hso.2.2
    split
    · exact q
    · have := hso.2.1; omega
  · unfold valI
    rw [hr]
    by_cases c : s.Low + s.Size = s.Total
    · split <;> omega
    · have q : (decAt ls i).Rest / ((enc (ls.take i)).2.2 / s.Total) < s.Low + s.Size := by
        apply Int.ediv_lt_of_lt_mul (by omega)
        unfold widthI at k2
        rw [if_neg c] at k2
        rw [Int.mul_comm]; omega
      have := hso.2.2
      split <;> omega
  · unfold impl_Decoder_take_o
    rw [hr, n2]
    simp only [Option.bind_some]
    have e1 : IntKind.i64.wrap ((decAt ls i).Rest - (enc (ls.take i)).2.2 / s.Total * s.Low) = pre (encBytes ls) ((enc (ls.take i)).1.length + 3) - (EN (enc (ls.take i)).1 (enc (ls.take i)).2.1 + (enc (ls.take i)).2.2 / s.Total * s.Low) := by
      rw [w64 (by omega)]; simp only [decAt]; omega
    have k1' : 0 ≤ pre (encBytes ls) ((enc (ls.take i)).1.length + 3) - (EN (enc (ls.take i)).1 (enc (ls.take i)).2.1 + (enc (ls.take i)).2.2 / s.Total * s.Low) := by
      simp only [decAt] at k1; omega
    have k2' : pre (encBytes ls) ((enc (ls.take i)).1.length + 3) - (EN (enc (ls.take i)).1 (enc (ls.take i)).2.1 + (enc (ls.take i)).2.2 / s.Total * s.Low) < widthI (enc (ls.take i)).2.2 s := by
      simp only [decAt] at k2; omega
    rw [e1]
    have t := turn_exact (bytes_ok hs (by omega)) 2 ((enc (ls.take i)).1.length + 3) (widthI (enc (ls.take i)).2.2 s) _ (by simp only [Int.reducePow]; omega) (by omega) n5 k1' k2' (by omega)
    rw [show (decAt ls i).Data = encBytes ls from rfl, show (decAt ls i).At = (((enc (ls.take i)).1.length + 3 : Nat) : Int) from rfl, t]
    simp only [Option.bind_some, decAt]
    rw [enc_take hx]
    generalize enc (ls.take i) = st at *
    obtain ⟨o, l, w⟩ := st
    obtain ⟨q1, q2, q3⟩ := encStep_num (o := o) (l := l) (w := w) g1 g2 hso
    rw [q1, q2, q3]
    simp only [show o.length + 3 + cnt 2 (widthI w s) = o.length + cnt 2 (widthI w s) + 3 by omega]
/-- How long the bytes are. -/
theorem potential {ls : List SSlot} (hs : ∀ s ∈ ls, SlotOk s) (hl : ls.length ≤ 40000) : ∀ i : Nat, i ≤ ls.length → 16777216 * 64513 ^ i * 256 ^ (enc (ls.take i)).1.length ≤ (enc (ls.take i)).2.2 * 67108864 ^ i
  | 0, _ => by simp [enc]
  | i + 1, h => by
    have ih := potential hs hl i (by omega)
    obtain ⟨g1, g2, g3⟩ := enc_inv hs hl i
    obtain ⟨s, hx, hm⟩ := get_lt (l := ls) (i := i) (by omega)
    rw [enc_take hx]
    generalize enc (ls.take i) = st at *
    obtain ⟨o, l, w⟩ := st
    obtain ⟨q1, q2, q3⟩ := encStep_num (o := o) (l := l) (w := w) g1 g2 (hs s hm)
    obtain ⟨_, w2⟩ := width_sum g2 (hs s hm)
    have p1 : (256 : Int) ^ (o.length + cnt 2 (widthI w s)) = 256 ^ o.length * 256 ^ cnt 2 (widthI w s) := Int.pow_add _ _ _
    have p2 : (64513 : Int) ^ (i + 1) = 64513 ^ i * 64513 := Int.pow_succ _ _
    have p3 : (67108864 : Int) ^ (i + 1) = 67108864 ^ i * 67108864 := Int.pow_succ _ _
    rw [q1, q3, p1, p2, p3]
    simp only [] at ih w2
    clear p1 p2 p3 q1 q2 q3
    have hc := pow_pos256 (k := cnt 2 (widthI w s))
    have hP : (0 : Int) ≤ 67108864 ^ i := Int.le_of_lt (Int.pow_pos (by decide))
    generalize (256 : Int) ^ cnt 2 (widthI w s) = c at *
    generalize (256 : Int) ^ o.length = C at *
    generalize (67108864 : Int) ^ i = P at *
    generalize (64513 : Int) ^ i = Q at *
    have a1 := Int.mul_le_mul_of_nonneg_right ih (show 0 ≤ 64513 * c by omega)
    have a2 := Int.mul_le_mul_of_nonneg_right w2 (show 0 ≤ P * c from Int.mul_nonneg hP (by omega))
    have e1 : 16777216 * (Q * 64513) * (C * c) = 16777216 * Q * C * (64513 * c) := by simp only [Int.mul_assoc, Int.mul_left_comm, Int.mul_comm]
    have e2 : w * P * (64513 * c) = w * 64513 * (P * c) := by simp only [Int.mul_assoc, Int.mul_left_comm, Int.mul_comm]
    have e3 : widthI w s * 67108864 * (P * c) = widthI w s * c * (P * 67108864) := by simp only [Int.mul_assoc, Int.mul_left_comm, Int.mul_comm]
    rw [e1, ← e3]
    rw [e2] at a1
    exact Int.le_trans a1 a2
theorem bytes_short {ls : List SSlot} (hs : ∀ s ∈ ls, SlotOk s) (hl : ls.length ≤ 400) : (encBytes ls).length ≤ 600 := by
  have hp := potential hs (by omega) ls.length (Nat.le_refl _)
  obtain ⟨g1, g2, _⟩ := enc_inv hs (by omega) ls.length
  rw [List.take_length] at hp g1 g2
  have h1 := (raw_num hs (by omega)).1
  have hle : (encBytes ls).length ≤ (enc ls).1.length + 3 := by unfold encBytes; rw [List.length_take]; omega
  apply Nat.le_trans hle
  apply Classical.byContradiction
  intro hc
  have hw := g1.2.2.1.2
  have hlen : ls.length + (400 - ls.length) = 400 := by omega
  generalize (enc ls).1.length = k at *
  generalize (enc ls).2.2 = w at *
  have hP : (0 : Int) < 67108864 ^ ls.length := Int.pow_pos (by decide)
  have a1 := Int.mul_le_mul_of_nonneg_right hw (Int.le_of_lt hP)
  have a2 : (64513 : Int) ^ ls.length * 256 ^ k ≤ 67108864 ^ ls.length := by
    have e : 16777216 * (64513 : Int) ^ ls.length * 256 ^ k = 16777216 * (64513 ^ ls.length * 256 ^ k) := Int.mul_assoc _ _ _
    rw [e] at hp; omega
  have n2 : 64513 ^ ls.length * 256 ^ k ≤ 67108864 ^ ls.length := Int.ofNat_le.1 (by rw [Int.natCast_mul, Int.natCast_pow, Int.natCast_pow, Int.natCast_pow]; exact a2)
  obtain ⟨e, he⟩ : ∃ e : Nat, e = 598 := ⟨_, rfl⟩
  have hk : e ≤ k := by omega
  have n3 : 256 ^ e ≤ 256 ^ k := Nat.pow_le_pow_right (by decide) hk
  have n4 : 64513 ^ ls.length * 256 ^ e ≤ 67108864 ^ ls.length := Nat.le_trans (Nat.mul_le_mul_left _ n3) n2
  have n5 : 64513 ^ (400 - ls.length) ≤ 67108864 ^ (400 - ls.length) := Nat.pow_le_pow_left (by decide) _
  have n6 := Nat.mul_le_mul n4 n5
  have e1 : 64513 ^ ls.length * 256 ^ e * 64513 ^ (400 - ls.length) = 64513 ^ 400 * 256 ^ e := by
    rw [Nat.mul_right_comm, ← Nat.pow_add, hlen]
  rw [e1, ← Nat.pow_add, hlen] at n6
  subst he
  exact absurd n6 (by decide +kernel)
theorem start_impl {l : List Int} (hb : ∀ x ∈ l, 0 ≤ x ∧ x ≤ 255) (hl : l.length ≤ 600) : impl_start l = some ⟨l, 3, pre l 3, 16777216⟩ := by
  unfold impl_start
  have cl : slices_Clone_byte l = some l := by unfold slices_Clone_byte; rw [if_pos (okApp_of (by omega))]
  obtain ⟨a0, a1⟩ := byteAt_ok (l := l) (a := 0) hb
  obtain ⟨b0, b1⟩ := byteAt_ok (l := l) (a := 1) hb
  obtain ⟨c0, c1⟩ := byteAt_ok (l := l) (a := 2) hb
  have st : ∀ (a r k : Int), 0 ≤ a → a ≤ 10 → 0 ≤ r → r ≤ 65536 → 0 ≤ k → k < 3 → impl_start_s3 (a, r, l, k) = some (.inl (a + 1, r * 256 + byteAt l a, l, k + 1)) := fun a r k h1 h2 h3 h4 h5 h6 => by
    obtain ⟨q0, q1⟩ := byteAt_ok (l := l) (a := a) hb
    simp only [impl_start_s3, decide_eq_true_eq]
    rw [if_pos h6]
    unfold impl_start_u2
    rw [next_impl (d := ⟨l, a, r, 16777216⟩) hb ⟨h1, by simp only []; omega⟩]
    simp only [Option.bind_some]
    rw [w64 (n := r * 256) (by omega), w64 (n := r * 256 + byteAt l a) (by omega), w64 (by omega)]
  have fin : ∀ (a r : Int), impl_start_s3 (a, r, l, 3) = some (.inr (a, r, l)) := fun a r => by
    simp only [impl_start_s3]; rw [if_neg (by decide)]
  simp only [cl, Option.bind_some]
  rw [loopO_eq, st 0 0 0 (by omega) (by omega) (by omega) (by omega) (by omega) (by omega)]
  simp only []
  rw [loopO_eq, st _ _ _ (by omega) (by omega) (by omega) (by omega) (by omega) (by omega)]
  simp only []
  rw [loopO_eq, st _ _ _ (by omega) (by omega) (by simp only [Int.zero_add]; omega) (by simp only [Int.zero_add]; omega) (by omega) (by omega)]
  simp only [Int.zero_add, Int.reduceAdd, Int.zero_mul]
  rw [loopO_eq, fin]
  simp only [Option.bind_some, pre]
  simp
theorem decFault_ok {d : SDecoder} (h : DecOk d) : impl_DecoderFault d = some 0 := by
  obtain ⟨h1, h2, h3, h4⟩ := h
  unfold impl_DecoderFault
  have hf : ∀ a b : Int, impl_first [a, b] = some (firstL [a, b]) := fun a b => impl_first_eq (by simp [maxI])
  simp only [impl_DecoderFault_u1, impl_inRange_eq, impl_codeIf_eq, hf, Option.bind_some, decide_eq_true_eq, firstL]
  rw [w64 (by omega)]
  have hc : ¬ ((d.Data.length : Int) > 600) := by omega
  simp [h2, h3, h4, hc]
theorem slots_steps {ls : List SSlot} : impl_EncodeSlots_s1 ls (ls.length : Int) = spec_l3Slots_s1 ls := by
  funext a
  simp only [impl_EncodeSlots_s1, spec_l3Slots_s1, (slotFault_all _).1]
theorem slots_loop {ls : List SSlot} (hl : ls.length ≤ 401) : ∃ t, loopO (spec_l3Slots_s1 ls) 0 = some t ∧ ((t = .inl () ∧ ∀ s ∈ ls, SlotOk s) ∨ ∃ c : Int, t = .inr c ∧ c ≠ 0) := by
  obtain ⟨t, h1, h2⟩ := loop_rule (step := spec_l3Slots_s1 ls) (fun i s => s = (i : Int) ∧ ∀ j x, j < i → ls[j]? = some x → SlotOk x) (fun t => (t = .inl () ∧ ∀ s ∈ ls, SlotOk s) ∨ ∃ c : Int, t = .inr c ∧ c ≠ 0) ls.length (by
    rintro i s hi ⟨rfl, hj⟩
    simp only [spec_l3Slots_s1, decide_eq_true_eq]
    rcases Nat.lt_or_ge i ls.length with hh | hh
    · obtain ⟨v, hv, hm⟩ := get_lt hh
      rw [if_pos (by omega), getI_nat, hv]
      simp only [Option.bind_some, bne_iff_ne, ne_eq]
      by_cases hc : spec_SlotFault v = 0
      · rw [if_neg (by simp [hc]), w64 (by omega)]
        refine .inl ⟨hh, _, rfl, by simp, fun j x hj' hx => ?_⟩
        rcases Nat.lt_or_ge j i with hji | hji
        · exact hj j x hji hx
        · obtain rfl : j = i := by omega
          rw [hv] at hx; obtain rfl := Option.some.inj hx; exact (slotFault_all v).2.1 hc
      · rw [if_pos hc]
        exact .inr ⟨_, rfl, .inr ⟨_, rfl, hc⟩⟩
    · obtain rfl : i = ls.length := by omega
      rw [if_neg (by omega)]
      refine .inr ⟨_, rfl, .inl ⟨rfl, fun s hm => ?_⟩⟩
      obtain ⟨j, hj'⟩ := List.getElem?_of_mem hm
      exact hj j s (List.getElem?_eq_some_iff.1 hj').1 hj') (s := 0) ⟨rfl, fun j x hj => by omega⟩
  exact ⟨t, h1, h2⟩
theorem encodeSlots_same {ls : List SSlot} (hl : ls.length ≤ 401) : ∃ e, impl_EncodeSlots ls = some e ∧ spec_EncodeSlots ls = some e ∧ (e.Code = 0 → ls.length ≤ 400 ∧ (∀ s ∈ ls, SlotOk s) ∧ e.Bytes = encBytes ls) := by
  unfold impl_EncodeSlots spec_EncodeSlots spec_l3Slots
  rw [slots_steps]
  simp only [decide_eq_true_eq]
  by_cases h : (ls.length : Int) > 400
  · rw [if_pos h, if_pos h]
    exact ⟨_, rfl, rfl, fun h => by simp at h⟩
  · rw [if_neg h, if_neg h]
    obtain ⟨t, h1, h2⟩ := slots_loop hl
    rw [h1]
    rcases h2 with ⟨rfl, h2⟩ | ⟨c, rfl, h2⟩
    · obtain ⟨q1, q2, _⟩ := encode_same h2 (by omega)
      simp only [Option.bind_some, Sum.elim_inl, q1, q2, bne_self_eq_false, Bool.false_eq_true, if_false]
      exact ⟨_, rfl, rfl, fun _ => ⟨by omega, h2, rfl⟩⟩
    · simp only [Option.bind_some, Sum.elim_inr, bne_iff_ne, ne_eq, h2, not_false_eq_true, if_true]
      exact ⟨_, rfl, rfl, fun h => absurd h h2⟩
theorem nextValue_ok {d : SDecoder} (h : DecOk d) {t : Int} (ht : 1 ≤ t ∧ t ≤ 1024) : impl_NextValue d t = some ⟨0, valI d t⟩ := by
  unfold impl_NextValue
  rw [decFault_ok h]
  have hf : ∀ a b : Int, impl_first [a, b] = some (firstL [a, b]) := fun a b => impl_first_eq (by simp [maxI])
  simp only [Option.bind_some, hf, firstL, impl_inRange_eq, impl_codeIf_eq]
  simp [ht, value_impl h ht]
theorem takeSlot_ok {d d' : SDecoder} {s : SSlot} (h : DecOk d) (hs : SlotOk s) (ha : d.At ≤ 9000) (hv : s.Low ≤ valI d s.Total ∧ valI d s.Total ≤ s.Low + s.Size - 1) (ht : impl_Decoder_take_o d s = some (d'.Data, d'.At, d'.Rest, d'.Range)) : impl_TakeSlot d s = some ⟨0, d'⟩ := by
  have f0 : impl_SlotFault s = 0 := by rw [(slotFault_all s).1]; exact (slotFault_all s).2.2 hs
  unfold impl_TakeSlot
  rw [decFault_ok h]
  have hf : ∀ a b c : Int, impl_first [a, b, c] = some (firstL [a, b, c]) := fun a b c => impl_first_eq (by simp [maxI])
  have e1 : IntKind.i64.wrap (s.Low + s.Size) = s.Low + s.Size := w64 (by unfold SlotOk at hs; omega)
  have e2 : IntKind.i64.wrap (s.Low + s.Size - 1) = s.Low + s.Size - 1 := w64 (by unfold SlotOk at hs; omega)
  have eD : ∀ t : SDecoder, SDecoder.mk t.Data t.At t.Rest t.Range = t := fun _ => rfl
  have cl : slices_Clone_byte d.Data = some d.Data := by unfold slices_Clone_byte; rw [if_pos (okApp_of (by have := h.1; omega))]
  have h3 : ¬ d.At > 9996 := by omega
  simp only [Option.bind_some, hf, firstL, f0, impl_codeIf_eq, decide_eq_true_eq, h3, if_false, ne_eq, not_true, impl_TakeSlot_u1, impl_TakeSlot_u2, eD, value_impl h hs.1, e1, e2, impl_inRange_eq, hv, and_self, decide_true, Bool.not_true, Bool.false_eq_true, beq_self_eq_true, if_true, bne_self_eq_false, cl, ht]
theorem drawSlots_ok {c : List Int} (hc : ∀ x ∈ c, 0 ≤ x ∧ x ≤ 255) (hl : (c.length : Int) ≤ 2000000) : ∃ ls, spec_DrawEncodeSlots c = some ls ∧ ls.length ≤ 401 := by
  unfold spec_DrawEncodeSlots
  obtain ⟨r1, s1, h1, m1, k1⟩ := pick_ok (l := [0, 1, 3, 8, 20, 40]) hc hl source_ok (by omega) (by simp)
  have hr1 : 0 ≤ r1 ∧ r1 ≤ 40 := by simp at m1; omega
  obtain ⟨b, s2, h2, k2⟩ := chance_ok (p := 30) hc hl k1 (by omega) (by omega)
  obtain ⟨x1, t1, e1, n1, k3⟩ := pick_ok (l := [400, 401]) hc hl k2 (by omega) (by simp)
  have hx1 : 0 ≤ x1 ∧ x1 ≤ 401 := by simp at n1; omega
  have hu : ∃ co at_ n, spec_DrawEncodeSlots_u1 s2.Code s2.At r1 b = some (co, at_, n) ∧ SrcOk c ⟨co, at_⟩ 10 ∧ 0 ≤ n ∧ n ≤ 401 := by
    unfold spec_DrawEncodeSlots_u1
    simp only [src_eta, e1, Option.bind_some]
    split
    · exact ⟨_, _, _, rfl, k3.mono (by omega), hx1⟩
    · exact ⟨_, _, _, rfl, k2.mono (by omega), by omega⟩
  obtain ⟨co, at_, n, hu, ku, n0, n1⟩ := hu
  simp only [h1, h2, hu, Option.bind_some]
  obtain ⟨n, rfl⟩ : ∃ m : Nat, n = m := ⟨n.toNat, by omega⟩
  obtain ⟨t, q1, q2⟩ := loop_rule (step := spec_DrawEncodeSlots_s2) (fun i u => u.2.2.2 = (n : Int) - i ∧ u.2.2.1.length = i ∧ SrcOk c ⟨u.1, u.2.1⟩ (10 + 8 * i)) (fun t => t.length ≤ 401) n (by
    rintro i ⟨co, at_, l, cnt⟩ hi ⟨g1, g2, g3⟩
    simp only at g1 g2 g3
    subst g1
    simp only [spec_DrawEncodeSlots_s2, decide_eq_true_eq]
    rcases Nat.lt_or_ge i n with hh | hh
    · left
      obtain ⟨x, s', e, k⟩ := drawBentSlot_ok hc hl g3 (by omega)
      rw [if_pos (by omega), e]
      simp only [Option.bind_some]
      rw [if_pos (okApp_of (by rw [List.length_append, List.length_singleton]; omega)), w64 (by omega)]
      exact ⟨hh, _, rfl, by simp only []; omega, by simp [g2], k.mono (by omega)⟩
    · right
      obtain rfl : i = n := by omega
      rw [if_neg (by omega)]
      exact ⟨_, rfl, by omega⟩) (s := (co, at_, [], (n : Int))) ⟨by simp, rfl, by simpa using ku⟩
  rw [q1]
  exact ⟨_, rfl, q2⟩
theorem decAt_zero {ls : List SSlot} (hs : ∀ s ∈ ls, SlotOk s) (hl : ls.length ≤ 40000) (hd : (encBytes ls).length ≤ 600) : impl_start (encBytes ls) = some (decAt ls 0) := by
  rw [start_impl (bytes_ok hs hl) hd]
  simp [decAt, enc, EN, numR]
theorem decAt_ok {ls : List SSlot} (hs : ∀ s ∈ ls, SlotOk s) (hl : ls.length ≤ 400) (hd : (encBytes ls).length ≤ 600) {i : Nat} (hi : i ≤ ls.length) : DecOk (decAt ls i) := by
  obtain ⟨g1, g2, g3⟩ := enc_inv hs (by omega) i
  obtain ⟨b1, b2⟩ := dec_bounds hs (by omega) hi
  have hr : (decAt ls i).Range = (enc (ls.take i)).2.2 := rfl
  exact ⟨hd, ⟨Int.natCast_nonneg _, by show (((enc (ls.take i)).1.length + 3 : Nat) : Int) ≤ 10000; omega⟩, ⟨g2, g1.2.2.1.2⟩, by omega⟩
theorem last_ok {ls : List SSlot} (h : (encBytes ls).length ≠ 0) : ∃ x, (encBytes ls)[(encBytes ls).length - 1]? = some x ∧ x ≠ 0 := by
  have hle := trimN_le (l := encRaw ls) (encRaw ls).length
  have hl : (encBytes ls).length = trimN (encRaw ls) (encRaw ls).length := by unfold encBytes; rw [List.length_take]; omega
  have := trimN_last (l := encRaw ls) (encRaw ls).length (by omega)
  rw [hl]
  unfold encBytes
  rw [List.getElem?_take_of_lt (by omega)]
  obtain ⟨x, hx, _⟩ := get_lt (l := encRaw ls) (i := trimN (encRaw ls) (encRaw ls).length - 1) (by omega)
  exact ⟨x, hx, fun h0 => this (by rw [hx, h0])⟩
--REST0
--REST0
theorem pure (a : List Int) (ha : ((a.length : Int) ≤ maxI ∧ ∀ x ∈ a, WfI .u8 x)) : laws_FnRanges a = some true := by
  obtain ⟨hl, hb⟩ := ha
  have hb' : ∀ x ∈ a, 0 ≤ x ∧ x ≤ 255 := fun x hx => wfU8.1 (hb x hx)
  unfold laws_FnRanges
  simp only [laws_lwBig, decide_eq_true_eq]
  split
  · rfl
  · rename_i h
    obtain ⟨ls, h1, h2⟩ := drawSlots_ok hb' (by omega)
    obtain ⟨e, e1, e2, e3⟩ := encodeSlots_same h2
    have ec : impl_CostOf ls = some ⟨e.Code, (e.Bytes.length : Int)⟩ := by unfold impl_CostOf; rw [e1]; rfl
    simp only [h1, e1, e2, ec, Option.bind_some, laws_FnRanges_u1, bne_self_eq_false, Bool.false_eq_true, if_false]
    by_cases h0 : e.Code = 0
    · obtain ⟨g1, g2, g3⟩ := e3 h0
      have hd := bytes_short g2 g1
      simp only [h0, g3, bne_self_eq_false, Bool.false_eq_true, if_false, laws_FnRanges_u11, impl_StartDecode]
      rw [if_neg (by simp; omega), decAt_zero g2 (by omega) hd]
      simp only [Option.bind_some, laws_FnRanges_u2, ec, g3, bne_self_eq_false, Bool.false_eq_true, if_false]
      have eD : ∀ t : SDecoder, SDecoder.mk t.Data t.At t.Rest t.Range = t := fun _ => rfl
      obtain ⟨t, q1, rfl⟩ := loop_rule (step := laws_FnRanges_s9 ls 0 (encBytes ls)) (fun i u => u = (0, (decAt ls i).At, (decAt ls i).Rest, (decAt ls i).Range, (decAt ls i).Data, (i : Int))) (fun t => t = .inl ()) ls.length (by
        rintro i u hi rfl
        simp only [laws_FnRanges_s9, decide_eq_true_eq]
        rcases Nat.lt_or_ge i ls.length with hh | hh
        · obtain ⟨s, hx, hm⟩ := get_lt hh
          obtain ⟨d1, d2, d3, d4, d5⟩ := dec_step g2 g1 hd hx
          have hs := g2 s hm
          have hw : IntKind.i64.wrap (s.Low + s.Size) = s.Low + s.Size := w64 (by unfold SlotOk at hs; omega)
          rw [if_pos (by omega)]
          simp only [laws_FnRanges_u6, getI_nat, hx, Int.toNat_natCast, Option.bind_some, eD, nextValue_ok d1 hs.1, laws_FnRanges_u7, bne_self_eq_false, Bool.false_eq_true, if_false, hw]
          rw [decide_eq_false (show ¬ valI (decAt ls i) s.Total < s.Low by omega), decide_eq_false (show ¬ valI (decAt ls i) s.Total ≥ s.Low + s.Size by omega)]
          simp only [Bool.false_eq_true, if_false, Option.bind_some, takeSlot_ok d1 hs d2 ⟨d3, d4⟩ d5, laws_FnRanges_u8, bne_self_eq_false, eD, decFault_ok (decAt_ok g2 g1 hd (show i + 1 ≤ ls.length by omega))]
          rw [w64 (by omega)]
          exact .inl ⟨hh, _, rfl, by simp⟩
        · obtain rfl : i = ls.length := by omega
          rw [if_neg (by omega)]
          exact .inr ⟨_, rfl, rfl⟩) (s := (0, (decAt ls 0).At, (decAt ls 0).Rest, (decAt ls 0).Range, (decAt ls 0).Data, 0)) rfl
      rw [q1]
      simp only [Option.bind_some, Sum.elim_inl, laws_FnRanges_u10]
      by_cases hz : (encBytes ls).length = 0
      · simp [hz]
      · obtain ⟨x, hx, hn⟩ := last_ok hz
        rw [if_neg (by simp; intro hc; rw [hc] at hz; simp at hz), w64 (by omega)]
        have ei : ((encBytes ls).length : Int) - 1 = (((encBytes ls).length - 1 : Nat) : Int) := by omega
        rw [ei, getI_nat, Int.toNat_natCast, hx]
        simp [hn]
    · rw [if_pos (by simpa using h0)]
end FnRanges
end Go.Proofs.YtclhghlpokdiiaaDoor.Wm
