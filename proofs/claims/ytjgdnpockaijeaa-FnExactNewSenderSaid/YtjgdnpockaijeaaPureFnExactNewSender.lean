/- What FnExactNewSender comes to on plain values: true. -/
import Derived.Test.YtjgdnpockaijeaaFnFnExactNewSender
set_option linter.unusedSimpArgs false
set_option linter.unusedVariables false
set_option maxRecDepth 100000
namespace Go.Proofs.Ytjgdnpockaijeaa.Wm
open Go
namespace FnExactNewSender
theorem spec_l1In_eq {a b c : Int} : spec_l1In a b c = decide (b ≤ a ∧ a ≤ c) := by
  simp only [spec_l1In, spec_l1In_u1, decide_eq_true_eq]
  by_cases h1 : b ≤ a <;> by_cases h2 : a ≤ c <;> simp [h1, h2]
theorem impl_inRange_eq {a b c : Int} : impl_inRange a b c = decide (b ≤ a ∧ a ≤ c) := by
  simp only [impl_inRange, impl_inRange_u1, decide_eq_true_eq]
  by_cases h1 : b ≤ a <;> by_cases h2 : a ≤ c <;> simp [h1, h2]
def firstL : List Int → Int
  | [] => 0
  | x :: l => if x ≠ 0 then x else firstL l
theorem firstL_skip : ∀ {i : Nat} {l : List Int}, (∀ j x, j < i → l[j]? = some x → x = 0) → firstL l = firstL (l.drop i)
  | 0, l, h => by simp
  | i + 1, [], h => by simp
  | i + 1, x :: l, h => by
    have := h 0 x (by omega) rfl
    subst this
    simp only [firstL, ne_eq, not_true, if_false, List.drop_succ_cons]
    exact firstL_skip fun j x hj hx => h (j + 1) x (by omega) (by simpa using hx)
theorem impl_first_eq {l : List Int} (hl : (l.length : Int) ≤ maxI) : impl_first l = some (firstL l) := by
  unfold maxI at hl
  unfold impl_first
  obtain ⟨t, h1, h2⟩ := loop_rule (step := impl_first_s1 l (l.length : Int)) (fun i s => s = (i : Int) ∧ ∀ j x, j < i → l[j]? = some x → x = 0)
      (fun t => (t = .inl () ∧ firstL l = 0) ∨ (t = .inr (firstL l))) l.length (by
    rintro i s hi ⟨rfl, hj⟩
    simp only [impl_first_s1, decide_eq_true_eq]
    rcases Nat.lt_or_ge i l.length with h | h
    · obtain ⟨x, hx, hm⟩ := get_lt h
      rw [if_pos (by omega), getI_nat, hx, w64 (by omega)]
      simp only [Option.bind_some, bne_iff_ne, ne_eq]
      by_cases hp : x = 0
      · left
        rw [if_neg (by simp [hp])]
        refine ⟨h, _, rfl, by simp, fun j y hj' hy => ?_⟩
        rcases Nat.lt_or_ge j i with hji | hji
        · exact hj j y hji hy
        · obtain rfl : j = i := by omega
          rw [hx] at hy; obtain rfl := Option.some.inj hy; exact hp
      · right
        rw [if_pos hp]
        refine ⟨_, rfl, .inr ?_⟩
        rw [firstL_skip hj, List.drop_eq_getElem_cons h, firstL]
        have : l[i] = x := by rw [List.getElem?_eq_getElem h] at hx; exact Option.some.inj hx
        rw [this, if_pos hp]
    · right
      rw [if_neg (by omega)]
      refine ⟨_, rfl, .inl ⟨rfl, ?_⟩⟩
      rw [firstL_skip hj, List.drop_eq_nil_of_le h]; rfl) (s := 0) ⟨rfl, fun j x hj => by omega⟩
  rw [h1]
  rcases h2 with ⟨rfl, h⟩ | rfl
  · simp [h]
  · simp
theorem impl_codeIf_eq {b : Bool} {c : Int} : impl_codeIf b c = if b = true then c else 0 := rfl
theorem laws_eqInt64S_self {l : List Int} (hl : (l.length : Int) ≤ maxI) : laws_eqInt64S l l = some true := by
  unfold maxI at hl
  unfold laws_eqInt64S
  rw [if_neg (by simp)]
  obtain ⟨t, h1, rfl⟩ := loop_rule (step := laws_eqInt64S_s1 l l) (fun i s => s = (i : Int)) (fun t => t = .inl ()) l.length (by
    rintro i s hi rfl
    simp only [laws_eqInt64S_s1, decide_eq_true_eq]
    rcases Nat.lt_or_ge i l.length with h | h
    · left
      obtain ⟨x, hx, _⟩ := get_lt h
      rw [if_pos (by omega), getI_nat, hx, w64 (by omega)]
      simp only [Option.bind_some, bne_self_eq_false, Bool.false_eq_true, if_false]
      exact ⟨h, _, rfl, by simp⟩
    · right
      rw [if_neg (by omega)]
      exact ⟨_, rfl, rfl⟩) (s := 0) rfl
  rw [h1]; rfl
theorem size_same {n : Int} : impl_SizeFault n = spec_SizeFault n := rfl
theorem size_cases {n : Int} : spec_SizeFault n = 0 ∨ spec_SizeFault n = 3 := by
  unfold spec_SizeFault
  simp only []
  split
  · exact .inr rfl
  · exact .inl rfl
theorem laws_heldInt64S_eq {l : List Int} {k : Int} (hk : 0 ≤ k) (hs : k + l.length ≤ maxI) (h : ∀ (j : Nat), j < l.length → l[j]? = some (k + j)) : laws_heldInt64S l k = some (k + l.length) := by
  unfold maxI at hs
  unfold laws_heldInt64S
  obtain ⟨t, h1, rfl⟩ := loop_rule (step := laws_heldInt64S_s1 l) (fun i s => s = (k + (i : Int), (i : Int))) (fun t => t = .inl (k + (l.length : Int))) l.length (by
    rintro i s hi rfl
    simp only [laws_heldInt64S_s1, decide_eq_true_eq]
    rcases Nat.lt_or_ge i l.length with hh | hh
    · left
      rw [if_pos (by omega), getI_nat, h i hh, w64 (by omega), w64 (by omega)]
      simp only [Option.bind_some, bne_self_eq_false, Bool.false_eq_true, if_false]
      exact ⟨hh, _, rfl, by simp only [Prod.mk.injEq]; omega⟩
    · right
      obtain rfl : i = l.length := by omega
      rw [if_neg (by omega)]
      exact ⟨_, rfl, rfl⟩) (s := (k, 0)) (by simp)
  rw [h1]; rfl
theorem laws_markInt64S_eq {l : List Int} {k : Int} (hk : 0 ≤ k) (hs : k + l.length ≤ maxI) : ∃ l', laws_markInt64S l k = some (k + l.length, l') ∧ l'.length = l.length ∧ laws_heldInt64S l' k = some (k + l.length) := by
  have hs' := hs
  unfold maxI at hs
  unfold laws_markInt64S
  obtain ⟨t, h1, h2, h3, h4⟩ := loop_rule (step := laws_markInt64S_s1) (fun i s => s.2.1 = k + (i : Int) ∧ s.2.2 = (i : Int) ∧ s.1.length = l.length ∧ ∀ (j : Nat), j < i → s.1[j]? = some (k + j)) (fun t => t.2 = k + (l.length : Int) ∧ t.1.length = l.length ∧ ∀ (j : Nat), j < l.length → t.1[j]? = some (k + j)) l.length (by
    rintro i ⟨a, m, n⟩ hi ⟨hm, hn, ha, hj⟩
    simp only at hm hn ha hj
    subst hm; subst hn
    simp only [laws_markInt64S_s1, decide_eq_true_eq]
    rcases Nat.lt_or_ge i l.length with hh | hh
    · left
      obtain ⟨y, hy, _⟩ := get_lt (l := a) (i := i) (by omega)
      rw [if_pos (by omega), getI_nat, hy, Int.toNat_natCast, hy, w64 (by omega), w64 (by omega)]
      refine ⟨hh, _, rfl, by simp; omega, by simp, by simp [ha], fun j hj' => ?_⟩
      simp only [List.getElem?_set]
      split
      · rename_i e; subst e; rw [if_pos (by omega)]
      · exact hj j (by omega)
    · right
      obtain rfl : i = l.length := by omega
      rw [if_neg (by omega)]
      exact ⟨_, rfl, rfl, ha, hj⟩) (s := (l, k, 0)) ⟨by simp, rfl, rfl, fun j hj => by omega⟩
  rw [h1]
  obtain ⟨a, b⟩ := t
  simp only at h2 h3 h4
  subst h2
  refine ⟨a, rfl, h3, ?_⟩
  have := laws_heldInt64S_eq (l := a) hk (by rw [h3]; exact hs') (by rw [h3]; exact h4)
  rw [h3] at this
  exact this
theorem size_zero {n : Int} : spec_SizeFault n = 0 ↔ (n = 4 ∨ n = 8 ∨ n = 16) := by
  unfold spec_SizeFault spec_SizeFault_u1
  by_cases h1 : n = 4 <;> by_cases h2 : n = 8 <;> by_cases h3 : n = 16 <;> simp [h1, h2, h3]
theorem markLap_eq {s : SLap} {k : Int} (hk : 0 ≤ k) (h : k + s.Half.length + s.Rest.length ≤ maxI) : ∃ s', laws_markLap_oo s k = some (k + s.Half.length + s.Rest.length, s') ∧ s'.Half.length = s.Half.length ∧ s'.Rest.length = s.Rest.length ∧
    ∀ z, laws_heldLap ⟨z, s'.Half, s'.Rest⟩ k = some (k + s.Half.length + s.Rest.length) := by
  unfold laws_markLap_oo
  obtain ⟨a, a1, a2, a3⟩ := laws_markInt64S_eq (l := s.Half) hk (by omega)
  obtain ⟨b, b1, b2, b3⟩ := laws_markInt64S_eq (l := s.Rest) (k := k + s.Half.length) (by omega) (by omega)
  simp only [a1, a2, b1, b2, Option.bind_some, if_true]
  refine ⟨_, rfl, a2, b2, fun z => ?_⟩
  unfold laws_heldLap
  have d1 : ¬ (k + (s.Half.length : Int) < 0) := by omega
  have d2 : ¬ (k + (s.Half.length : Int) + (s.Rest.length : Int) < 0) := by omega
  simp only [a3, b3, d1, d2, Option.bind_some, decide_eq_true_eq, if_false]
theorem markAnchor_eq {s : SAnchor} {k : Int} (hk : 0 ≤ k) (h : k + s.Gains.length ≤ maxI) : ∃ s', laws_markAnchor_o s k = some (k + s.Gains.length, s') ∧ s'.Gains.length = s.Gains.length ∧ ∀ x y z, laws_heldAnchor ⟨x, y, z, s'.Gains⟩ k = some (k + s.Gains.length) := by
  unfold laws_markAnchor_o
  obtain ⟨a, a1, a2, a3⟩ := laws_markInt64S_eq (l := s.Gains) hk (by omega)
  simp only [a1, a2, Option.bind_some, if_true]
  refine ⟨_, rfl, a2, fun x y z => ?_⟩
  unfold laws_heldAnchor
  have d1 : ¬ (k + (s.Gains.length : Int) < 0) := by omega
  simp [a3, d1]
def cntSender (s : SSender) : Int := s.Lap.Half.length + s.Lap.Rest.length + s.A.Gains.length + s.B.Gains.length
theorem markSender_eq {s : SSender} {k : Int} (hk : 0 ≤ k) (h : k + cntSender s ≤ maxI) : ∃ s', laws_markSender_oooo s k = some (k + cntSender s, s') ∧ s'.Lap.Half.length = s.Lap.Half.length ∧ s'.Lap.Rest.length = s.Lap.Rest.length ∧ s'.A.Gains.length = s.A.Gains.length ∧ s'.B.Gains.length = s.B.Gains.length ∧
    ∀ a b c d e f g i j l m n o, laws_heldSender ⟨a, b, c, d, ⟨e, s'.Lap.Half, s'.Lap.Rest⟩, ⟨f, g, i, s'.A.Gains⟩, ⟨j, l, m, s'.B.Gains⟩, n, o⟩ k = some (k + cntSender s) := by
  unfold cntSender at h ⊢
  unfold laws_markSender_oooo
  obtain ⟨a, a1, a2, a3, a4⟩ := markLap_eq (s := s.Lap) hk (by omega)
  obtain ⟨b, b1, b2, b3⟩ := markAnchor_eq (s := s.A) (k := k + s.Lap.Half.length + s.Lap.Rest.length) (by omega) (by omega)
  obtain ⟨c, c1, c2, c3⟩ := markAnchor_eq (s := s.B) (k := k + s.Lap.Half.length + s.Lap.Rest.length + s.A.Gains.length) (by omega) (by omega)
  simp only [a1, a2, a3, b1, b2, c1, c2, Option.bind_some, if_true]
  refine ⟨_, by rw [show k + (s.Lap.Half.length : Int) + s.Lap.Rest.length + s.A.Gains.length + s.B.Gains.length = k + (s.Lap.Half.length + s.Lap.Rest.length + s.A.Gains.length + s.B.Gains.length) by omega], a2, a3, b2, c2, ?_⟩
  intros
  unfold laws_heldSender
  have d1 : ¬ (k + (s.Lap.Half.length : Int) + s.Lap.Rest.length < 0) := by omega
  have d2 : ¬ (k + (s.Lap.Half.length : Int) + s.Lap.Rest.length + s.A.Gains.length < 0) := by omega
  have d3 : ¬ (k + (s.Lap.Half.length : Int) + s.Lap.Rest.length + s.A.Gains.length + s.B.Gains.length < 0) := by omega
  simp only [a4, b3, c3, Option.bind_some, decide_eq_true_eq, d1, d2, d3, if_false]
  simp only [Int.add_assoc]
theorem eqLap_self {s : SLap} (h1 : (s.Half.length : Int) ≤ maxI) (h2 : (s.Rest.length : Int) ≤ maxI) : laws_eqLap s s = some true := by
  unfold laws_eqLap
  simp [laws_eqInt64S_self h1, laws_eqInt64S_self h2]
theorem eqAnchor_self {s : SAnchor} (h1 : (s.Gains.length : Int) ≤ maxI) : laws_eqAnchor s s = some true := by
  unfold laws_eqAnchor
  simp [laws_eqInt64S_self h1]
theorem eqSender_self {s : SSender} (h1 : (s.Lap.Half.length : Int) ≤ maxI) (h2 : (s.Lap.Rest.length : Int) ≤ maxI) (h3 : (s.A.Gains.length : Int) ≤ maxI) (h4 : (s.B.Gains.length : Int) ≤ maxI) : laws_eqSender s s = some true := by
  have eL : SLap.mk s.Lap.Size s.Lap.Half s.Lap.Rest = s.Lap := rfl
  have eA : SAnchor.mk s.A.Known s.A.Number s.A.Rung s.A.Gains = s.A := rfl
  have eB : SAnchor.mk s.B.Known s.B.Number s.B.Rung s.B.Gains = s.B := rfl
  unfold laws_eqSender laws_eqSender_u2 laws_eqSender_u1
  simp [eL, eA, eB, eqLap_self h1 h2, eqAnchor_self h3, eqAnchor_self h4]
--REST0
/-- What a new sender comes to. -/
def newR (a b c : Int) : SSenderResult := if spec_SizeFault a = 0 ∧ (24 ≤ b ∧ b ≤ 160) ∧ 1 ≤ c ∧ c ≤ 50 then ⟨0, ⟨a, b, c, 0, ⟨a, List.replicate (a / 2).toNat 0, List.replicate (a / 2).toNat 0⟩, ⟨false, 0, 0, []⟩, ⟨false, 0, 0, []⟩, 0, 0⟩⟩
  else ⟨3, ⟨0, 0, 0, 0, ⟨0, [], []⟩, ⟨false, 0, 0, []⟩, ⟨false, 0, 0, []⟩, 0, 0⟩⟩
theorem half_eq {a : Int} (h : a = 4 ∨ a = 8 ∨ a = 16) : IntKind.i64.wrap (a.tdiv 2) = a / 2 ∧ 0 ≤ a / 2 ∧ a / 2 ≤ 8 := by rcases h with rfl | rfl | rfl <;> decide
theorem new_spec (a b c : Int) : spec_NewSender a b c = some (newR a b c) := by
  unfold spec_NewSender newR
  by_cases h0 : spec_SizeFault a = 0
  · obtain ⟨e, e1, e2⟩ := half_eq (size_zero.1 h0)
    have z : spec_l1Zeros (a / 2) = some (List.replicate (a / 2).toNat 0) := by unfold spec_l1Zeros; rw [if_pos (okMake_8 e1 (by omega))]
    simp only [h0, bne_self_eq_false, Bool.false_eq_true, if_false, spec_l17Terms, spec_l17Terms_u1, spec_l1In_eq, decide_eq_true_eq, spec_l17New, spec_l7New, e, z, Option.bind_some]
    by_cases h1 : 24 ≤ b ∧ b ≤ 160 <;> by_cases h2 : 1 ≤ c ∧ c ≤ 50 <;> simp [h1, h2]
  · have : spec_SizeFault a = 3 := (size_cases (n := a)).resolve_left h0
    simp [this]
theorem new_impl (a b c : Int) : impl_NewSender a b c = some (newR a b c) := by
  unfold impl_NewSender impl_NewLap newR
  rw [size_same]
  by_cases h0 : spec_SizeFault a = 0
  · obtain ⟨e, e1, e2⟩ := half_eq (size_zero.1 h0)
    have z : okMake 8 (a / 2) = true := okMake_8 e1 (by omega)
    simp only [h0, bne_self_eq_false, Bool.false_eq_true, if_false, impl_NewLap_u1, e, z, if_true, Option.bind_some, impl_rateFault, impl_rateFault_u1, impl_inRange_eq, impl_codeIf_eq, decide_eq_true_eq]
    rw [impl_first_eq (by simp [maxI])]
    by_cases h1 : 24 ≤ b ∧ b ≤ 160 <;> by_cases h2 : 1 ≤ c ∧ c ≤ 50 <;> simp [h1, h2, firstL]
  · have : spec_SizeFault a = 3 := (size_cases (n := a)).resolve_left h0
    simp only [this]
    rw [if_pos (by decide)]
    simp only [Option.bind_some]
    rw [impl_first_eq (by simp [maxI])]
    simp [firstL]
theorem newR_len (a b c : Int) : (newR a b c).Sender.Lap.Half.length ≤ 8 ∧ (newR a b c).Sender.Lap.Rest.length ≤ 8 ∧ (newR a b c).Sender.A.Gains.length = 0 ∧ (newR a b c).Sender.B.Gains.length = 0 := by
  unfold newR
  split
  · rename_i h
    obtain ⟨e, e1, e2⟩ := half_eq (size_zero.1 h.1)
    refine ⟨by simp only [List.length_replicate]; omega, by simp only [List.length_replicate]; omega, rfl, rfl⟩
  · simp
theorem pure (a b c : Int) (ha : WfI .i64 a) (hb : WfI .i64 b) (hc : WfI .i64 c) : laws_FnExactNewSender a b c = some true := by
  unfold laws_FnExactNewSender
  obtain ⟨l1, l2, l3, l4⟩ := newR_len a b c
  simp only [new_spec, new_impl, Option.bind_some]
  generalize hr : newR a b c = r at *
  have m1 : (r.Sender.Lap.Half.length : Int) ≤ maxI := by unfold maxI; omega
  have m2 : (r.Sender.Lap.Rest.length : Int) ≤ maxI := by unfold maxI; omega
  have m3 : (r.Sender.A.Gains.length : Int) ≤ maxI := by unfold maxI; omega
  have m4 : (r.Sender.B.Gains.length : Int) ≤ maxI := by unfold maxI; omega
  have eq : laws_eqSenderResult r r = some true := by
    unfold laws_eqSenderResult
    simp [eqSender_self m1 m2 m3 m4]
  have hcnt : 0 ≤ cntSender r.Sender ∧ cntSender r.Sender ≤ 16 := by unfold cntSender; omega
  obtain ⟨s', k1, k2, k3, k4, k5, k6⟩ := markSender_eq (s := r.Sender) (k := 1) (by omega) (by unfold maxI; omega)
  have eta : SSenderResult.mk r.Code (SSender.mk r.Sender.Size r.Sender.Budget r.Sender.Refresh r.Sender.Number (SLap.mk r.Sender.Lap.Size r.Sender.Lap.Half r.Sender.Lap.Rest) (SAnchor.mk r.Sender.A.Known r.Sender.A.Number r.Sender.A.Rung r.Sender.A.Gains) (SAnchor.mk r.Sender.B.Known r.Sender.B.Number r.Sender.B.Rung r.Sender.B.Gains) r.Sender.SinceA r.Sender.SinceB) = r := rfl
  have d1 : ¬ (1 + cntSender r.Sender < 0) := by omega
  simp only [eq, if_true, laws_markSenderResult_oooo, k1, k2, k3, k4, k5, Option.bind_some, laws_FnExactNewSender_u2, laws_FnExactNewSender_u1, laws_heldSenderResult, k6, decide_eq_true_eq, d1, if_false, bne_self_eq_false, Bool.false_eq_true, new_impl, hr, eta, eq, if_true]
end FnExactNewSender
end Go.Proofs.Ytjgdnpockaijeaa.Wm
