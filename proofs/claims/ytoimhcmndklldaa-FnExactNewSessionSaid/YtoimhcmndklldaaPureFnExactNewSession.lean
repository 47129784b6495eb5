/- What FnExactNewSession comes to on plain values: true. -/
import Derived.Test.YtoimhcmndklldaaFnBFnExactNewSession
set_option linter.unusedSimpArgs false
set_option linter.unusedVariables false
set_option maxRecDepth 100000
namespace Go.Proofs.Ytoimhcmndklldaa.Wm
open Go
namespace FnExactNewSession
theorem spec_l1In_eq {a b c : Int} : spec_l1In a b c = decide (b ≤ a ∧ a ≤ c) := by
  simp only [spec_l1In, spec_l1In_u1, decide_eq_true_eq]
  by_cases h1 : b ≤ a <;> by_cases h2 : a ≤ c <;> simp [h1, h2]
theorem impl_inRange_eq {a b c : Int} : impl_inRange a b c = decide (b ≤ a ∧ a ≤ c) := by
  simp only [impl_inRange, impl_inRange_u1, decide_eq_true_eq]
  by_cases h1 : b ≤ a <;> by_cases h2 : a ≤ c <;> simp [h1, h2]
def firstL : List Int → Int
  | [] => 0
  | x :: l => if x ≠ 0 then x else firstL l
theorem firstL_skip : ∀ {i : Nat} {l : List Int}, (∀ j x, j < i → l[j]? = some x → x = 0) → firstL l = firstL (l.drop i)
  | 0, l, h => by simp
  | i + 1, [], h => by simp
  | i + 1, x :: l, h => by
    have := h 0 x (by omega) rfl
    subst this
    simp only [firstL, ne_eq, not_true, if_false, List.drop_succ_cons]
    exact firstL_skip fun j x hj hx => h (j + 1) x (by omega) (by simpa using hx)
theorem impl_first_eq {l : List Int} (hl : (l.length : Int) ≤ maxI) : impl_first l = some (firstL l) := by
  unfold maxI at hl
  unfold impl_first
  obtain ⟨t, h1, h2⟩ := loop_rule (step := impl_first_s1 l (l.length : Int)) (fun i s => s = (i : Int) ∧ ∀ j x, j < i → l[j]? = some x → x = 0)
      (fun t => (t = .inl () ∧ firstL l = 0) ∨ (t = .inr (firstL l))) l.length (by
    rintro i s hi ⟨rfl, hj⟩
    simp only [impl_first_s1, decide_eq_true_eq]
    rcases Nat.lt_or_ge i l.length with h | h
    · obtain ⟨x, hx, hm⟩ := get_lt h
      rw [if_pos (by omega), getI_nat, hx, w64 (by omega)]
      simp only [Option.bind_some, bne_iff_ne, ne_eq]
      by_cases hp : x = 0
      · left
        rw [if_neg (by simp [hp])]
        refine ⟨h, _, rfl, by simp, fun j y hj' hy => ?_⟩
        rcases Nat.lt_or_ge j i with hji | hji
        · exact hj j y hji hy
        · obtain rfl : j = i := by omega
          rw [hx] at hy; obtain rfl := Option.some.inj hy; exact hp
      · right
        rw [if_pos hp]
        refine ⟨_, rfl, .inr ?_⟩
        rw [firstL_skip hj, List.drop_eq_getElem_cons h, firstL]
        have : l[i] = x := by rw [List.getElem?_eq_getElem h] at hx; exact Option.some.inj hx
        rw [this, if_pos hp]
    · right
      rw [if_neg (by omega)]
      refine ⟨_, rfl, .inl ⟨rfl, ?_⟩⟩
      rw [firstL_skip hj, List.drop_eq_nil_of_le h]; rfl) (s := 0) ⟨rfl, fun j x hj => by omega⟩
  rw [h1]
  rcases h2 with ⟨rfl, h⟩ | rfl
  · simp [h]
  · simp
theorem impl_codeIf_eq {b : Bool} {c : Int} : impl_codeIf b c = if b = true then c else 0 := rfl
theorem laws_eqInt64S_self {l : List Int} (hl : (l.length : Int) ≤ maxI) : laws_eqInt64S l l = some true := by
  unfold maxI at hl
  unfold laws_eqInt64S
  rw [if_neg (by simp)]
  obtain ⟨t, h1, rfl⟩ := loop_rule (step := laws_eqInt64S_s1 l l) (fun i s => s = (i : Int)) (fun t => t = .inl ()) l.length (by
    rintro i s hi rfl
    simp only [laws_eqInt64S_s1, decide_eq_true_eq]
    rcases Nat.lt_or_ge i l.length with h | h
    · left
      obtain ⟨x, hx, _⟩ := get_lt h
      rw [if_pos (by omega), getI_nat, hx, w64 (by omega)]
      simp only [Option.bind_some, bne_self_eq_false, Bool.false_eq_true, if_false]
      exact ⟨h, _, rfl, by simp⟩
    · right
      rw [if_neg (by omega)]
      exact ⟨_, rfl, rfl⟩) (s := 0) rfl
  rw [h1]; rfl
theorem size_same {n : Int} : impl_SizeFault n = spec_SizeFault n := rfl
theorem size_cases {n : Int} : spec_SizeFault n = 0 ∨ spec_SizeFault n = 3 := by
  unfold spec_SizeFault
  simp only []
  split
  · exact .inr rfl
  · exact .inl rfl
theorem laws_heldInt64S_eq {l : List Int} {k : Int} (hk : 0 ≤ k) (hs : k + l.length ≤ maxI) (h : ∀ (j : Nat), j < l.length → l[j]? = some (k + j)) : laws_heldInt64S l k = some (k + l.length) := by
  unfold maxI at hs
  unfold laws_heldInt64S
  obtain ⟨t, h1, rfl⟩ := loop_rule (step := laws_heldInt64S_s1 l) (fun i s => s = (k + (i : Int), (i : Int))) (fun t => t = .inl (k + (l.length : Int))) l.length (by
    rintro i s hi rfl
    simp only [laws_heldInt64S_s1, decide_eq_true_eq]
    rcases Nat.lt_or_ge i l.length with hh | hh
    · left
      rw [if_pos (by omega), getI_nat, h i hh, w64 (by omega), w64 (by omega)]
      simp only [Option.bind_some, bne_self_eq_false, Bool.false_eq_true, if_false]
      exact ⟨hh, _, rfl, by simp only [Prod.mk.injEq]; omega⟩
    · right
      obtain rfl : i = l.length := by omega
      rw [if_neg (by omega)]
      exact ⟨_, rfl, rfl⟩) (s := (k, 0)) (by simp)
  rw [h1]; rfl
theorem laws_markInt64S_eq {l : List Int} {k : Int} (hk : 0 ≤ k) (hs : k + l.length ≤ maxI) : ∃ l', laws_markInt64S l k = some (k + l.length, l') ∧ l'.length = l.length ∧ laws_heldInt64S l' k = some (k + l.length) := by
  have hs' := hs
  unfold maxI at hs
  unfold laws_markInt64S
  obtain ⟨t, h1, h2, h3, h4⟩ := loop_rule (step := laws_markInt64S_s1) (fun i s => s.2.1 = k + (i : Int) ∧ s.2.2 = (i : Int) ∧ s.1.length = l.length ∧ ∀ (j : Nat), j < i → s.1[j]? = some (k + j)) (fun t => t.2 = k + (l.length : Int) ∧ t.1.length = l.length ∧ ∀ (j : Nat), j < l.length → t.1[j]? = some (k + j)) l.length (by
    rintro i ⟨a, m, n⟩ hi ⟨hm, hn, ha, hj⟩
    simp only at hm hn ha hj
    subst hm; subst hn
    simp only [laws_markInt64S_s1, decide_eq_true_eq]
    rcases Nat.lt_or_ge i l.length with hh | hh
    · left
      obtain ⟨y, hy, _⟩ := get_lt (l := a) (i := i) (by omega)
      rw [if_pos (by omega), getI_nat, hy, Int.toNat_natCast, hy, w64 (by omega), w64 (by omega)]
      refine ⟨hh, _, rfl, by simp; omega, by simp, by simp [ha], fun j hj' => ?_⟩
      simp only [List.getElem?_set]
      split
      · rename_i e; subst e; rw [if_pos (by omega)]
      · exact hj j (by omega)
    · right
      obtain rfl : i = l.length := by omega
      rw [if_neg (by omega)]
      exact ⟨_, rfl, rfl, ha, hj⟩) (s := (l, k, 0)) ⟨by simp, rfl, rfl, fun j hj => by omega⟩
  rw [h1]
  obtain ⟨a, b⟩ := t
  simp only at h2 h3 h4
  subst h2
  refine ⟨a, rfl, h3, ?_⟩
  have := laws_heldInt64S_eq (l := a) hk (by rw [h3]; exact hs') (by rw [h3]; exact h4)
  rw [h3] at this
  exact this
theorem size_zero {n : Int} : spec_SizeFault n = 0 ↔ (n = 4 ∨ n = 8 ∨ n = 16) := by
  unfold spec_SizeFault spec_SizeFault_u1
  by_cases h1 : n = 4 <;> by_cases h2 : n = 8 <;> by_cases h3 : n = 16 <;> simp [h1, h2, h3]
theorem markAnchor_eq {s : SAnchor} {k : Int} (hk : 0 ≤ k) (h : k + s.Gains.length ≤ maxI) : ∃ s', laws_markAnchor_o s k = some (k + s.Gains.length, s') ∧ s'.Gains.length = s.Gains.length ∧ ∀ x y z, laws_heldAnchor ⟨x, y, z, s'.Gains⟩ k = some (k + s.Gains.length) := by
  unfold laws_markAnchor_o
  obtain ⟨a, a1, a2, a3⟩ := laws_markInt64S_eq (l := s.Gains) hk (by omega)
  simp only [a1, a2, Option.bind_some, if_true]
  refine ⟨_, rfl, a2, fun x y z => ?_⟩
  unfold laws_heldAnchor
  have d1 : ¬ (k + (s.Gains.length : Int) < 0) := by omega
  simp [a3, d1]
theorem markLap_eq {s : SLap} {k : Int} (hk : 0 ≤ k) (h : k + s.Half.length + s.Rest.length ≤ maxI) : ∃ s', laws_markLap_oo s k = some (k + s.Half.length + s.Rest.length, s') ∧ s'.Half.length = s.Half.length ∧ s'.Rest.length = s.Rest.length ∧
    ∀ z, laws_heldLap ⟨z, s'.Half, s'.Rest⟩ k = some (k + s.Half.length + s.Rest.length) := by
  unfold laws_markLap_oo
  obtain ⟨a, a1, a2, a3⟩ := laws_markInt64S_eq (l := s.Half) hk (by omega)
  obtain ⟨b, b1, b2, b3⟩ := laws_markInt64S_eq (l := s.Rest) (k := k + s.Half.length) (by omega) (by omega)
  simp only [a1, a2, b1, b2, Option.bind_some, if_true, and_self]
  refine ⟨_, rfl, a2, b2, fun z => ?_⟩
  unfold laws_heldLap
  have d1 : ¬ (k + (s.Half.length : Int) < 0) := by omega
  have d2 : ¬ (k + (s.Half.length : Int) + (s.Rest.length : Int) < 0) := by omega
  simp only [a3, b3, d1, d2, Option.bind_some, decide_eq_true_eq, if_false]
def cntSender (s : SSender) : Int := s.Lap.Half.length + s.Lap.Rest.length + s.A.Gains.length + s.B.Gains.length
theorem markSender_eq {s : SSender} {k : Int} (hk : 0 ≤ k) (h : k + cntSender s ≤ maxI) : ∃ s', laws_markSender_oooo s k = some (k + cntSender s, s') ∧ s'.Lap.Half.length = s.Lap.Half.length ∧ s'.Lap.Rest.length = s.Lap.Rest.length ∧ s'.A.Gains.length = s.A.Gains.length ∧ s'.B.Gains.length = s.B.Gains.length ∧
    ∀ a b c d e f g i j l m n o, laws_heldSender ⟨a, b, c, d, ⟨e, s'.Lap.Half, s'.Lap.Rest⟩, ⟨f, g, i, s'.A.Gains⟩, ⟨j, l, m, s'.B.Gains⟩, n, o⟩ k = some (k + cntSender s) := by
  unfold cntSender at h ⊢
  unfold laws_markSender_oooo
  obtain ⟨a, a1, a2, a3, a4⟩ := markLap_eq (s := s.Lap) hk (by omega)
  obtain ⟨b, b1, b2, b3⟩ := markAnchor_eq (s := s.A) (k := k + s.Lap.Half.length + s.Lap.Rest.length) (by omega) (by omega)
  obtain ⟨c, c1, c2, c3⟩ := markAnchor_eq (s := s.B) (k := k + s.Lap.Half.length + s.Lap.Rest.length + s.A.Gains.length) (by omega) (by omega)
  simp only [a1, a2, a3, b1, b2, c1, c2, Option.bind_some, if_true, and_self]
  refine ⟨_, by rw [show k + (s.Lap.Half.length : Int) + s.Lap.Rest.length + s.A.Gains.length + s.B.Gains.length = k + (s.Lap.Half.length + s.Lap.Rest.length + s.A.Gains.length + s.B.Gains.length) by omega], a2, a3, b2, c2, ?_⟩
  intros
  unfold laws_heldSender
  have d1 : ¬ (k + (s.Lap.Half.length : Int) + s.Lap.Rest.length < 0) := by omega
  have d2 : ¬ (k + (s.Lap.Half.length : Int) + s.Lap.Rest.length + s.A.Gains.length < 0) := by omega
  have d3 : ¬ (k + (s.Lap.Half.length : Int) + s.Lap.Rest.length + s.A.Gains.length + s.B.Gains.length < 0) := by omega
  simp only [a4, b3, c3, Option.bind_some, decide_eq_true_eq, d1, d2, d3, if_false]
  simp only [Int.add_assoc]
theorem eqLap_self {s : SLap} (h1 : (s.Half.length : Int) ≤ maxI) (h2 : (s.Rest.length : Int) ≤ maxI) : laws_eqLap s s = some true := by
  unfold laws_eqLap
  simp [laws_eqInt64S_self h1, laws_eqInt64S_self h2]
theorem eqAnchor_self {s : SAnchor} (h1 : (s.Gains.length : Int) ≤ maxI) : laws_eqAnchor s s = some true := by
  unfold laws_eqAnchor
  simp [laws_eqInt64S_self h1]
theorem eqSender_self {s : SSender} (h1 : (s.Lap.Half.length : Int) ≤ maxI) (h2 : (s.Lap.Rest.length : Int) ≤ maxI) (h3 : (s.A.Gains.length : Int) ≤ maxI) (h4 : (s.B.Gains.length : Int) ≤ maxI) : laws_eqSender s s = some true := by
  have eL : SLap.mk s.Lap.Size s.Lap.Half s.Lap.Rest = s.Lap := rfl
  have eA : SAnchor.mk s.A.Known s.A.Number s.A.Rung s.A.Gains = s.A := rfl
  have eB : SAnchor.mk s.B.Known s.B.Number s.B.Rung s.B.Gains = s.B := rfl
  unfold laws_eqSender laws_eqSender_u2 laws_eqSender_u1
  simp [eL, eA, eB, eqLap_self h1 h2, eqAnchor_self h3, eqAnchor_self h4]
theorem markSynth_eq {s : SSynth} {k : Int} (hk : 0 ≤ k) (h : k + s.Head.length + s.Tail.length ≤ maxI) : ∃ s', laws_markSynth_oo s k = some (k + s.Head.length + s.Tail.length, s') ∧ s'.Head.length = s.Head.length ∧ s'.Tail.length = s.Tail.length ∧
    ∀ z, laws_heldSynth ⟨z, s'.Head, s'.Tail⟩ k = some (k + s.Head.length + s.Tail.length) := by
  unfold laws_markSynth_oo
  obtain ⟨a, a1, a2, a3⟩ := laws_markInt64S_eq (l := s.Head) hk (by omega)
  obtain ⟨b, b1, b2, b3⟩ := laws_markInt64S_eq (l := s.Tail) (k := k + s.Head.length) (by omega) (by omega)
  simp only [a1, a2, b1, b2, Option.bind_some, if_true, and_self]
  refine ⟨_, rfl, a2, b2, fun z => ?_⟩
  unfold laws_heldSynth
  have d1 : ¬ (k + (s.Head.length : Int) < 0) := by omega
  have d2 : ¬ (k + (s.Head.length : Int) + (s.Tail.length : Int) < 0) := by omega
  simp only [a3, b3, d1, d2, Option.bind_some, decide_eq_true_eq, if_false]
def cntRecv (s : SReceiver) : Int := s.A.Gains.length + s.B.Gains.length + s.Synth.Head.length + s.Synth.Tail.length + s.Last.length
theorem heldHeldS_nil {k : Int} : laws_heldHeldS [] k = some k := by
  unfold laws_heldHeldS
  rw [loopO_eq]
  simp [laws_heldHeldS_s1]
theorem eqHeldS_nil : laws_eqHeldS [] [] = some true := by
  unfold laws_eqHeldS
  rw [loopO_eq]
  simp [laws_eqHeldS_s1]
theorem markReceiver0_eq {s : SReceiver} {k : Int} (hk : 0 ≤ k) (h : k + cntRecv s ≤ maxI) : ∃ s', laws_markReceiver_eooooo s k = some (k + cntRecv s, s') ∧ s'.A.Gains.length = s.A.Gains.length ∧ s'.B.Gains.length = s.B.Gains.length ∧ s'.Synth.Head.length = s.Synth.Head.length ∧ s'.Synth.Tail.length = s.Synth.Tail.length ∧ s'.Last.length = s.Last.length ∧
    ∀ a b c d e f g i j l, laws_heldReceiver ⟨a, b, [], ⟨c, d, e, s'.A.Gains⟩, ⟨f, g, i, s'.B.Gains⟩, ⟨j, s'.Synth.Head, s'.Synth.Tail⟩, s'.Last, l⟩ k = some (k + cntRecv s) := by
  unfold cntRecv at h ⊢
  unfold laws_markReceiver_eooooo laws_markHeldS_e
  obtain ⟨a, a1, a2, a3⟩ := markAnchor_eq (s := s.A) (k := k) (by omega) (by omega)
  obtain ⟨b, b1, b2, b3⟩ := markAnchor_eq (s := s.B) (k := k + s.A.Gains.length) (by omega) (by omega)
  obtain ⟨c, c1, c2, c3, c4⟩ := markSynth_eq (s := s.Synth) (k := k + s.A.Gains.length + s.B.Gains.length) (by omega) (by omega)
  obtain ⟨d, d1, d2, d3⟩ := laws_markInt64S_eq (l := s.Last) (k := k + s.A.Gains.length + s.B.Gains.length + s.Synth.Head.length + s.Synth.Tail.length) (by omega) (by omega)
  simp only [a1, a2, b1, b2, c1, c2, c3, d1, d2, Option.bind_some, if_true, and_self]
  refine ⟨_, by rw [show k + (s.A.Gains.length : Int) + s.B.Gains.length + s.Synth.Head.length + s.Synth.Tail.length + s.Last.length = k + (s.A.Gains.length + s.B.Gains.length + s.Synth.Head.length + s.Synth.Tail.length + s.Last.length) by omega], a2, b2, c2, c3, d2, ?_⟩
  intros
  unfold laws_heldReceiver laws_heldReceiver_u1
  have e0 : ¬ (k < 0) := by omega
  have e1 : ¬ (k + (s.A.Gains.length : Int) < 0) := by omega
  have e2 : ¬ (k + (s.A.Gains.length : Int) + s.B.Gains.length < 0) := by omega
  have e3 : ¬ (k + (s.A.Gains.length : Int) + s.B.Gains.length + s.Synth.Head.length + s.Synth.Tail.length < 0) := by omega
  have e4 : ¬ (k + (s.A.Gains.length : Int) + s.B.Gains.length + s.Synth.Head.length + s.Synth.Tail.length + s.Last.length < 0) := by omega
  simp only [heldHeldS_nil, a3, b3, c4, d3, Option.bind_some, decide_eq_true_eq, e0, e1, e2, e3, e4, if_false]
  simp only [Int.add_assoc]
theorem eqReceiver0_self {s : SReceiver} (h0 : s.Held = []) (h1 : (s.A.Gains.length : Int) ≤ maxI) (h2 : (s.B.Gains.length : Int) ≤ maxI) (h3 : (s.Synth.Head.length : Int) ≤ maxI) (h4 : (s.Synth.Tail.length : Int) ≤ maxI) (h5 : (s.Last.length : Int) ≤ maxI) : laws_eqReceiver s s = some true := by
  unfold laws_eqReceiver laws_eqReceiver_u2 laws_eqReceiver_u1 laws_eqAnchor laws_eqSynth
  rw [h0]
  simp [eqHeldS_nil, laws_eqInt64S_self h1, laws_eqInt64S_self h2, laws_eqInt64S_self h3, laws_eqInt64S_self h4, laws_eqInt64S_self h5]
/-- What a new sender comes to. -/
def newR (a b c : Int) : SSenderResult := if spec_SizeFault a = 0 ∧ (24 ≤ b ∧ b ≤ 160) ∧ 1 ≤ c ∧ c ≤ 50 then ⟨0, ⟨a, b, c, 0, ⟨a, List.replicate (a / 2).toNat 0, List.replicate (a / 2).toNat 0⟩, ⟨false, 0, 0, []⟩, ⟨false, 0, 0, []⟩, 0, 0⟩⟩
  else ⟨3, ⟨0, 0, 0, 0, ⟨0, [], []⟩, ⟨false, 0, 0, []⟩, ⟨false, 0, 0, []⟩, 0, 0⟩⟩
theorem half_eq {a : Int} (h : a = 4 ∨ a = 8 ∨ a = 16) : IntKind.i64.wrap (a.tdiv 2) = a / 2 ∧ 0 ≤ a / 2 ∧ a / 2 ≤ 8 := by rcases h with rfl | rfl | rfl <;> decide
theorem new_spec (a b c : Int) : spec_NewSender a b c = some (newR a b c) := by
  unfold spec_NewSender newR
  by_cases h0 : spec_SizeFault a = 0
  · obtain ⟨e, e1, e2⟩ := half_eq (size_zero.1 h0)
    have z : spec_l1Zeros (a / 2) = some (List.replicate (a / 2).toNat 0) := by unfold spec_l1Zeros; rw [if_pos (okMake_8 e1 (by omega))]
    simp only [h0, bne_self_eq_false, Bool.false_eq_true, if_false, spec_l17Terms, spec_l17Terms_u1, spec_l1In_eq, decide_eq_true_eq, spec_l17New, spec_l7New, e, z, Option.bind_some]
    by_cases h1 : 24 ≤ b ∧ b ≤ 160 <;> by_cases h2 : 1 ≤ c ∧ c ≤ 50 <;> simp [h1, h2]
  · have : spec_SizeFault a = 3 := (size_cases (n := a)).resolve_left h0
    simp [this]
theorem new_impl (a b c : Int) : impl_NewSender a b c = some (newR a b c) := by
  unfold impl_NewSender impl_NewLap newR
  rw [size_same]
  by_cases h0 : spec_SizeFault a = 0
  · obtain ⟨e, e1, e2⟩ := half_eq (size_zero.1 h0)
    have z : okMake 8 (a / 2) = true := okMake_8 e1 (by omega)
    simp only [h0, bne_self_eq_false, Bool.false_eq_true, if_false, impl_NewLap_u1, e, z, if_true, Option.bind_some, impl_rateFault, impl_rateFault_u1, impl_inRange_eq, impl_codeIf_eq, decide_eq_true_eq]
    rw [impl_first_eq (by simp [maxI])]
    by_cases h1 : 24 ≤ b ∧ b ≤ 160 <;> by_cases h2 : 1 ≤ c ∧ c ≤ 50 <;> simp [h1, h2, firstL]
  · have : spec_SizeFault a = 3 := (size_cases (n := a)).resolve_left h0
    simp only [this]
    rw [if_pos (by decide)]
    simp only [Option.bind_some]
    rw [impl_first_eq (by simp [maxI])]
    simp [firstL]
theorem newR_len (a b c : Int) : (newR a b c).Sender.Lap.Half.length ≤ 8 ∧ (newR a b c).Sender.Lap.Rest.length ≤ 8 ∧ (newR a b c).Sender.A.Gains.length = 0 ∧ (newR a b c).Sender.B.Gains.length = 0 := by
  unfold newR
  split
  · rename_i h
    obtain ⟨e, e1, e2⟩ := half_eq (size_zero.1 h.1)
    refine ⟨by simp only [List.length_replicate]; omega, by simp only [List.length_replicate]; omega, rfl, rfl⟩
  · simp
/-- What a new receiver comes to. -/
def newRecv (a : Int) : SReceiver := ⟨a, 0, [], ⟨false, 0, 0, []⟩, ⟨false, 0, 0, []⟩, ⟨a, List.replicate (a / 2).toNat 0, List.replicate (a / 2).toNat 0⟩, List.replicate a.toNat 0, 0⟩
def noRecv : SReceiver := ⟨0, 0, [], ⟨false, 0, 0, []⟩, ⟨false, 0, 0, []⟩, ⟨0, [], []⟩, [], 0⟩
def newRecvR (a : Int) : SReceiverResult := if spec_SizeFault a = 0 then ⟨0, newRecv a⟩ else ⟨3, noRecv⟩
theorem newRecv_impl (a : Int) : impl_NewReceiver a = some (newRecvR a) := by
  unfold impl_NewReceiver impl_NewSynth newRecvR
  rw [size_same]
  by_cases h0 : spec_SizeFault a = 0
  · have hz := size_zero.1 h0
    obtain ⟨e, e1, e2⟩ := half_eq hz
    have z : okMake 8 (a / 2) = true := okMake_8 e1 (by omega)
    have z2 : okMake 8 a = true := okMake_8 (by omega) (by omega)
    simp only [h0, bne_self_eq_false, Bool.false_eq_true, if_false, impl_NewSynth_u1, e, z, z2, if_true, Option.bind_some, newRecv]
  · have : spec_SizeFault a = 3 := (size_cases (n := a)).resolve_left h0
    simp only [this]
    rw [if_pos (by decide)]
    simp [noRecv]
theorem newRecvR_len (a : Int) : (newRecvR a).Receiver.Held = [] ∧ (newRecvR a).Receiver.A.Gains.length = 0 ∧ (newRecvR a).Receiver.B.Gains.length = 0 ∧ (newRecvR a).Receiver.Synth.Head.length ≤ 8 ∧ (newRecvR a).Receiver.Synth.Tail.length ≤ 8 ∧ (newRecvR a).Receiver.Last.length ≤ 16 := by
  unfold newRecvR
  split
  · rename_i h
    have hz := size_zero.1 h
    obtain ⟨e, e1, e2⟩ := half_eq hz
    refine ⟨rfl, rfl, rfl, ?_, ?_, ?_⟩ <;> simp only [newRecv, List.length_replicate] <;> omega
  · simp [noRecv]
def cntSess (s : SSession) : Int := cntSender s.Sender + cntRecv s.Receiver + s.Scheduler.Window.length
theorem markNoteS_nil {k : Int} : laws_markNoteS [] k = some (k, []) := by
  unfold laws_markNoteS
  rw [loopO_eq]
  simp [laws_markNoteS_s1]
theorem heldNoteS_nil {k : Int} : laws_heldNoteS [] k = some k := by
  unfold laws_heldNoteS
  rw [loopO_eq]
  simp [laws_heldNoteS_s1]
theorem heldFlightS_nil {k : Int} : laws_heldFlightS [] k = some k := by
  unfold laws_heldFlightS
  rw [loopO_eq]
  simp [laws_heldFlightS_s1]
theorem eqNoteS_nil : laws_eqNoteS [] [] = some true := by
  unfold laws_eqNoteS
  rw [loopO_eq]
  simp [laws_eqNoteS_s1]
theorem eqFlightS_nil : laws_eqFlightS [] [] = some true := by
  unfold laws_eqFlightS
  rw [loopO_eq]
  simp [laws_eqFlightS_s1]
theorem markSession0_eq {s : SSession} {k : Int} (hn : s.Notes = []) (hk : 0 ≤ k) (h : k + cntSess s ≤ maxI) : ∃ s', laws_markSession_ooooeooooooeo s k = some (k + cntSess s, s') ∧ s'.Sender.Lap.Half.length = s.Sender.Lap.Half.length ∧ s'.Sender.Lap.Rest.length = s.Sender.Lap.Rest.length ∧ s'.Sender.A.Gains.length = s.Sender.A.Gains.length ∧ s'.Sender.B.Gains.length = s.Sender.B.Gains.length ∧
    s'.Receiver.A.Gains.length = s.Receiver.A.Gains.length ∧ s'.Receiver.B.Gains.length = s.Receiver.B.Gains.length ∧ s'.Receiver.Synth.Head.length = s.Receiver.Synth.Head.length ∧ s'.Receiver.Synth.Tail.length = s.Receiver.Synth.Tail.length ∧ s'.Receiver.Last.length = s.Receiver.Last.length ∧ s'.Scheduler.Window.length = s.Scheduler.Window.length ∧ s'.Notes = [] ∧
    ∀ x0 x1 x2 x3 x4 x5 x6 x7 x8 x9 x10 x11 x12 y0 y1 y2 y3 y4 y5 y6 y7 y8 y9 z0 z1 z2, laws_heldSession ⟨⟨x0, x1, x2, x3, ⟨x4, s'.Sender.Lap.Half, s'.Sender.Lap.Rest⟩, ⟨x5, x6, x7, s'.Sender.A.Gains⟩, ⟨x8, x9, x10, s'.Sender.B.Gains⟩, x11, x12⟩,
      ⟨y0, y1, [], ⟨y2, y3, y4, s'.Receiver.A.Gains⟩, ⟨y5, y6, y7, s'.Receiver.B.Gains⟩, ⟨y8, s'.Receiver.Synth.Head, s'.Receiver.Synth.Tail⟩, s'.Receiver.Last, y9⟩, ⟨z0, s'.Scheduler.Window⟩, z1, z2, [], []⟩ k = some (k + cntSess s) := by
  have c1 : 0 ≤ cntSender s.Sender := by unfold cntSender; omega
  have c2 : 0 ≤ cntRecv s.Receiver := by unfold cntRecv; omega
  unfold cntSess at h ⊢
  unfold laws_markSession_ooooeooooooeo laws_markFlightS_e
  obtain ⟨a, a1, a2, a3, a4, a5, a6⟩ := markSender_eq (s := s.Sender) (k := k) hk (by omega)
  obtain ⟨b, b1, b2, b3, b4, b5, b6, b7⟩ := markReceiver0_eq (s := s.Receiver) (k := k + cntSender s.Sender) (by omega) (by omega)
  obtain ⟨c, d1, d2, d3⟩ := laws_markInt64S_eq (l := s.Scheduler.Window) (k := k + cntSender s.Sender + cntRecv s.Receiver) (by omega) (by omega)
  have eR : ∀ r : SReceiver, laws_markReceiver_eooooo ⟨r.Size, r.Next, [], r.A, r.B, r.Synth, r.Last, r.Lost⟩ = laws_markReceiver_eooooo r := fun _ => rfl
  simp only [eR, a1, a2, a3, a4, a5, b1, b2, b3, b4, b5, b6, laws_markScheduler_o, d1, d2, hn, markNoteS_nil, Option.bind_some, if_true, and_self]
  refine ⟨_, by rw [show k + cntSender s.Sender + cntRecv s.Receiver + (s.Scheduler.Window.length : Int) = k + (cntSender s.Sender + cntRecv s.Receiver + s.Scheduler.Window.length) by omega], a2, a3, a4, a5, b2, b3, b4, b5, b6, d2, rfl, ?_⟩
  intros
  unfold laws_heldSession laws_heldSession_u1 laws_heldScheduler
  have e1 : ¬ (k + cntSender s.Sender < 0) := by omega
  have e2 : ¬ (k + cntSender s.Sender + cntRecv s.Receiver < 0) := by omega
  have e3 : ¬ (k + cntSender s.Sender + cntRecv s.Receiver + (s.Scheduler.Window.length : Int) < 0) := by omega
  simp only [a6, b7, d3, heldFlightS_nil, heldNoteS_nil, Option.bind_some, decide_eq_true_eq, e1, e2, e3, if_false]
  simp only [Int.add_assoc]
def zeroSess : SSession := ⟨⟨0, 0, 0, 0, ⟨0, [], []⟩, ⟨false, 0, 0, []⟩, ⟨false, 0, 0, []⟩, 0, 0⟩, ⟨0, 0, [], ⟨false, 0, 0, []⟩, ⟨false, 0, 0, []⟩, ⟨0, [], []⟩, [], 0⟩, ⟨0, []⟩, 0, 0, [], []⟩
/-- What a new session comes to. -/
def newSess (a b c d : Int) : SSessionResult := if (newR a b c).Code = 0 then (if 0 ≤ d ∧ d ≤ 6 then ⟨0, ⟨(newR a b c).Sender, newRecv a, ⟨-1, []⟩, 0, d, [], []⟩⟩ else ⟨3, zeroSess⟩) else ⟨(newR a b c).Code, zeroSess⟩
theorem newR_zero {a b c : Int} (h : (newR a b c).Code = 0) : spec_SizeFault a = 0 ∧ spec_l17New a b c = some (newR a b c).Sender := by
  unfold newR at h ⊢
  split at h
  · rename_i q
    refine ⟨q.1, ?_⟩
    rw [if_pos q]
    obtain ⟨e, e1, e2⟩ := half_eq (size_zero.1 q.1)
    have z : spec_l1Zeros (a / 2) = some (List.replicate (a / 2).toNat 0) := by unfold spec_l1Zeros; rw [if_pos (okMake_8 e1 (by omega))]
    simp only [spec_l17New, spec_l7New, e, z, Option.bind_some]
  · simp at h
theorem newRecv_l18 {a : Int} (h : spec_SizeFault a = 0) : spec_l18New a = some (newRecv a) := by
  have hz := size_zero.1 h
  obtain ⟨e, e1, e2⟩ := half_eq hz
  have z : spec_l1Zeros (a / 2) = some (List.replicate (a / 2).toNat 0) := by unfold spec_l1Zeros; rw [if_pos (okMake_8 e1 (by omega))]
  have z2 : spec_l1Zeros a = some (List.replicate a.toNat 0) := by unfold spec_l1Zeros; rw [if_pos (okMake_8 (by omega) (by omega))]
  simp only [spec_l18New, spec_l7NewSynth, e, z, z2, Option.bind_some, newRecv]
theorem newSess_spec (a b c d : Int) : spec_NewSession a b c d = some (newSess a b c d) := by
  unfold spec_NewSession newSess
  rw [new_spec]
  simp only [Option.bind_some, bne_iff_ne, ne_eq, spec_l1In_eq, decide_eq_true_eq]
  by_cases h : (newR a b c).Code = 0
  · obtain ⟨h0, h1⟩ := newR_zero h
    simp only [h, not_true, if_false, if_true]
    by_cases hd : 0 ≤ d ∧ d ≤ 6
    · simp only [hd, and_self, if_true, spec_l20New, h1, newRecv_l18 h0, Option.bind_some]
      rfl
    · simp only [hd, if_false]; rfl
  · simp only [h, not_false_eq_true, if_true, if_false]; rfl
theorem newSess_impl (a b c d : Int) : impl_NewSession a b c d = some (newSess a b c d) := by
  unfold impl_NewSession newSess
  rw [new_impl]
  have hf : ∀ x y : Int, impl_first [x, y] = some (firstL [x, y]) := fun x y => impl_first_eq (by simp [maxI])
  simp only [Option.bind_some, hf, firstL, impl_codeIf_eq, impl_inRange_eq, bne_iff_ne, ne_eq]
  by_cases h : (newR a b c).Code = 0
  · obtain ⟨h0, h1⟩ := newR_zero h
    simp only [h, not_true, if_false, if_true]
    by_cases hd : 0 ≤ d ∧ d ≤ 6
    · simp [hd, newRecv_impl, newRecvR, h0, impl_newScheduler, newRecv]
    · simp [hd, zeroSess]
  · simp [h, zeroSess]
theorem newSess_len (a b c d : Int) : (newSess a b c d).Session.Receiver.Held = [] ∧ (newSess a b c d).Session.Flights = [] ∧ (newSess a b c d).Session.Notes = [] ∧ (newSess a b c d).Session.Sender.Lap.Half.length ≤ 8 ∧ (newSess a b c d).Session.Sender.Lap.Rest.length ≤ 8 ∧ (newSess a b c d).Session.Sender.A.Gains.length = 0 ∧ (newSess a b c d).Session.Sender.B.Gains.length = 0 ∧
    (newSess a b c d).Session.Receiver.A.Gains.length = 0 ∧ (newSess a b c d).Session.Receiver.B.Gains.length = 0 ∧ (newSess a b c d).Session.Receiver.Synth.Head.length ≤ 8 ∧ (newSess a b c d).Session.Receiver.Synth.Tail.length ≤ 8 ∧ (newSess a b c d).Session.Receiver.Last.length ≤ 16 ∧ (newSess a b c d).Session.Scheduler.Window.length = 0 := by
  obtain ⟨l1, l2, l3, l4⟩ := newR_len a b c
  unfold newSess
  split
  · rename_i h
    have h0 := (newR_zero h).1
    split
    · have := newRecvR_len a
      unfold newRecvR at this
      rw [if_pos h0] at this
      obtain ⟨k0, k1, k2, k3, k4, k5⟩ := this
      exact ⟨k0, rfl, rfl, l1, l2, l3, l4, k1, k2, k3, k4, k5, rfl⟩
    · simp [zeroSess]
  · simp [zeroSess]
--REST0
--REST0
theorem pure (a b c d : Int) (ha : WfI .i64 a) (hb : WfI .i64 b) (hc : WfI .i64 c) (hd : WfI .i64 d) : laws_FnExactNewSession a b c d = some true := by
  unfold laws_FnExactNewSession
  obtain ⟨q1, q2, q3, l1, l2, l3, l4, l5, l6, l7, l8, l9, l10⟩ := newSess_len a b c d
  simp only [newSess_spec, newSess_impl, Option.bind_some]
  generalize hr : newSess a b c d = r at *
  have eta : SSessionResult.mk r.Code (SSession.mk r.Session.Sender (SReceiver.mk r.Session.Receiver.Size r.Session.Receiver.Next [] r.Session.Receiver.A r.Session.Receiver.B r.Session.Receiver.Synth r.Session.Receiver.Last r.Session.Receiver.Lost) r.Session.Scheduler r.Session.Tick r.Session.Wait [] r.Session.Notes) = r := by
    obtain ⟨x, ⟨s, ⟨a1, a2, a3, a4, a5, a6, a7, a8⟩, u, v, w, f, n⟩⟩ := r
    simp only at q1 q2
    subst q1; subst q2; rfl
  have eta2 : SSession.mk r.Session.Sender (SReceiver.mk r.Session.Receiver.Size r.Session.Receiver.Next [] r.Session.Receiver.A r.Session.Receiver.B r.Session.Receiver.Synth r.Session.Receiver.Last r.Session.Receiver.Lost) r.Session.Scheduler r.Session.Tick r.Session.Wait [] r.Session.Notes = r.Session := by
    have := congrArg SSessionResult.Session eta; exact this
  have eta3 : SSessionResult.mk r.Code (SSession.mk (SSender.mk r.Session.Sender.Size r.Session.Sender.Budget r.Session.Sender.Refresh r.Session.Sender.Number (SLap.mk r.Session.Sender.Lap.Size r.Session.Sender.Lap.Half r.Session.Sender.Lap.Rest) (SAnchor.mk r.Session.Sender.A.Known r.Session.Sender.A.Number r.Session.Sender.A.Rung r.Session.Sender.A.Gains) (SAnchor.mk r.Session.Sender.B.Known r.Session.Sender.B.Number r.Session.Sender.B.Rung r.Session.Sender.B.Gains) r.Session.Sender.SinceA r.Session.Sender.SinceB) (SReceiver.mk r.Session.Receiver.Size r.Session.Receiver.Next [] (SAnchor.mk r.Session.Receiver.A.Known r.Session.Receiver.A.Number r.Session.Receiver.A.Rung r.Session.Receiver.A.Gains) (SAnchor.mk r.Session.Receiver.B.Known r.Session.Receiver.B.Number r.Session.Receiver.B.Rung r.Session.Receiver.B.Gains) (SSynth.mk r.Session.Receiver.Synth.Size r.Session.Receiver.Synth.Head r.Session.Receiver.Synth.Tail) r.Session.Receiver.Last r.Session.Receiver.Lost) (SScheduler.mk r.Session.Scheduler.Last r.Session.Scheduler.Window) r.Session.Tick r.Session.Wait [] r.Session.Notes) = r := eta
  have big : ∀ {l : List Int}, l.length ≤ 16 → (l.length : Int) ≤ maxI := fun h => by unfold maxI; omega
  have eq : laws_eqSessionResult r r = some true := by
    unfold laws_eqSessionResult laws_eqSession laws_eqSession_u1 laws_eqScheduler
    rw [q2, q3]
    simp [eqSender_self (s := r.Session.Sender) (big (by omega)) (big (by omega)) (big (by omega)) (big (by omega)), eqReceiver0_self q1 (big (by omega)) (big (by omega)) (big (by omega)) (big (by omega)) (big (by omega)), laws_eqInt64S_self (l := r.Session.Scheduler.Window) (big (by omega)), eqFlightS_nil, eqNoteS_nil]
  have hcnt : 0 ≤ cntSess r.Session ∧ cntSess r.Session ≤ 100 := by unfold cntSess cntSender cntRecv; omega
  obtain ⟨s', k1, k2, k3, k4, k5, k6, k7, k8, k9, k10, k11, k12, k13⟩ := markSession0_eq (s := r.Session) (k := 1) q3 (by omega) (by unfold maxI; omega)
  have d1 : ¬ (1 + cntSess r.Session < 0) := by omega
  have hn : r.Session.Notes.length = s'.Notes.length := by rw [q3, k12]
  simp only [eta, eq, if_true, laws_markSessionResult_ooooeooooooeo, eta2, k1, k2, k3, k4, k5, k6, k7, k8, k9, k10, k11, hn, and_self, Option.bind_some]
  simp only [laws_FnExactNewSession_u2, laws_FnExactNewSession_u1, laws_heldSessionResult, k12, k13, decide_eq_true_eq, d1, if_false, bne_self_eq_false, Bool.false_eq_true, newSess_impl, hr, eta3, eta, eq, if_true, Option.bind_some]
end FnExactNewSession
end Go.Proofs.Ytoimhcmndklldaa.Wm
