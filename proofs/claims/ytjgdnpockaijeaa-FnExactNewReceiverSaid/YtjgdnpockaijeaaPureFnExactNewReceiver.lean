/- What FnExactNewReceiver comes to on plain values: true. -/
import Derived.Test.YtjgdnpockaijeaaFnFnExactNewReceiver
set_option linter.unusedSimpArgs false
set_option linter.unusedVariables false
set_option maxRecDepth 100000
namespace Go.Proofs.Ytjgdnpockaijeaa.Wm
open Go
namespace FnExactNewReceiver
theorem laws_eqInt64S_self {l : List Int} (hl : (l.length : Int) ≤ maxI) : laws_eqInt64S l l = some true := by
  unfold maxI at hl
  unfold laws_eqInt64S
  rw [if_neg (by simp)]
  obtain ⟨t, h1, rfl⟩ := loop_rule (step := laws_eqInt64S_s1 l l) (fun i s => s = (i : Int)) (fun t => t = .inl ()) l.length (by
    rintro i s hi rfl
    simp only [laws_eqInt64S_s1, decide_eq_true_eq]
    rcases Nat.lt_or_ge i l.length with h | h
    · left
      obtain ⟨x, hx, _⟩ := get_lt h
      rw [if_pos (by omega), getI_nat, hx, w64 (by omega)]
      simp only [Option.bind_some, bne_self_eq_false, Bool.false_eq_true, if_false]
      exact ⟨h, _, rfl, by simp⟩
    · right
      rw [if_neg (by omega)]
      exact ⟨_, rfl, rfl⟩) (s := 0) rfl
  rw [h1]; rfl
theorem size_same {n : Int} : impl_SizeFault n = spec_SizeFault n := rfl
theorem size_cases {n : Int} : spec_SizeFault n = 0 ∨ spec_SizeFault n = 3 := by
  unfold spec_SizeFault
  simp only []
  split
  · exact .inr rfl
  · exact .inl rfl
theorem laws_heldInt64S_eq {l : List Int} {k : Int} (hk : 0 ≤ k) (hs : k + l.length ≤ maxI) (h : ∀ (j : Nat), j < l.length → l[j]? = some (k + j)) : laws_heldInt64S l k = some (k + l.length) := by
  unfold maxI at hs
  unfold laws_heldInt64S
  obtain ⟨t, h1, rfl⟩ := loop_rule (step := laws_heldInt64S_s1 l) (fun i s => s = (k + (i : Int), (i : Int))) (fun t => t = .inl (k + (l.length : Int))) l.length (by
    rintro i s hi rfl
    simp only [laws_heldInt64S_s1, decide_eq_true_eq]
    rcases Nat.lt_or_ge i l.length with hh | hh
    · left
      rw [if_pos (by omega), getI_nat, h i hh, w64 (by omega), w64 (by omega)]
      simp only [Option.bind_some, bne_self_eq_false, Bool.false_eq_true, if_false]
      exact ⟨hh, _, rfl, by simp only [Prod.mk.injEq]; omega⟩
    · right
      obtain rfl : i = l.length := by omega
      rw [if_neg (by omega)]
      exact ⟨_, rfl, rfl⟩) (s := (k, 0)) (by simp)
  rw [h1]; rfl
theorem laws_markInt64S_eq {l : List Int} {k : Int} (hk : 0 ≤ k) (hs : k + l.length ≤ maxI) : ∃ l', laws_markInt64S l k = some (k + l.length, l') ∧ l'.length = l.length ∧ laws_heldInt64S l' k = some (k + l.length) := by
  have hs' := hs
  unfold maxI at hs
  unfold laws_markInt64S
  obtain ⟨t, h1, h2, h3, h4⟩ := loop_rule (step := laws_markInt64S_s1) (fun i s => s.2.1 = k + (i : Int) ∧ s.2.2 = (i : Int) ∧ s.1.length = l.length ∧ ∀ (j : Nat), j < i → s.1[j]? = some (k + j)) (fun t => t.2 = k + (l.length : Int) ∧ t.1.length = l.length ∧ ∀ (j : Nat), j < l.length → t.1[j]? = some (k + j)) l.length (by
    rintro i ⟨a, m, n⟩ hi ⟨hm, hn, ha, hj⟩
    simp only at hm hn ha hj
    subst hm; subst hn
    simp only [laws_markInt64S_s1, decide_eq_true_eq]
    rcases Nat.lt_or_ge i l.length with hh | hh
    · left
      obtain ⟨y, hy, _⟩ := get_lt (l := a) (i := i) (by omega)
      rw [if_pos (by omega), getI_nat, hy, Int.toNat_natCast, hy, w64 (by omega), w64 (by omega)]
      refine ⟨hh, _, rfl, by simp; omega, by simp, by simp [ha], fun j hj' => ?_⟩
      simp only [List.getElem?_set]
      split
      · rename_i e; subst e; rw [if_pos (by omega)]
      · exact hj j (by omega)
    · right
      obtain rfl : i = l.length := by omega
      rw [if_neg (by omega)]
      exact ⟨_, rfl, rfl, ha, hj⟩) (s := (l, k, 0)) ⟨by simp, rfl, rfl, fun j hj => by omega⟩
  rw [h1]
  obtain ⟨a, b⟩ := t
  simp only at h2 h3 h4
  subst h2
  refine ⟨a, rfl, h3, ?_⟩
  have := laws_heldInt64S_eq (l := a) hk (by rw [h3]; exact hs') (by rw [h3]; exact h4)
  rw [h3] at this
  exact this
theorem size_zero {n : Int} : spec_SizeFault n = 0 ↔ (n = 4 ∨ n = 8 ∨ n = 16) := by
  unfold spec_SizeFault spec_SizeFault_u1
  by_cases h1 : n = 4 <;> by_cases h2 : n = 8 <;> by_cases h3 : n = 16 <;> simp [h1, h2, h3]
theorem markAnchor_eq {s : SAnchor} {k : Int} (hk : 0 ≤ k) (h : k + s.Gains.length ≤ maxI) : ∃ s', laws_markAnchor_o s k = some (k + s.Gains.length, s') ∧ s'.Gains.length = s.Gains.length ∧ ∀ x y z, laws_heldAnchor ⟨x, y, z, s'.Gains⟩ k = some (k + s.Gains.length) := by
  unfold laws_markAnchor_o
  obtain ⟨a, a1, a2, a3⟩ := laws_markInt64S_eq (l := s.Gains) hk (by omega)
  simp only [a1, a2, Option.bind_some, if_true]
  refine ⟨_, rfl, a2, fun x y z => ?_⟩
  unfold laws_heldAnchor
  have d1 : ¬ (k + (s.Gains.length : Int) < 0) := by omega
  simp [a3, d1]
theorem markSynth_eq {s : SSynth} {k : Int} (hk : 0 ≤ k) (h : k + s.Head.length + s.Tail.length ≤ maxI) : ∃ s', laws_markSynth_oo s k = some (k + s.Head.length + s.Tail.length, s') ∧ s'.Head.length = s.Head.length ∧ s'.Tail.length = s.Tail.length ∧
    ∀ z, laws_heldSynth ⟨z, s'.Head, s'.Tail⟩ k = some (k + s.Head.length + s.Tail.length) := by
  unfold laws_markSynth_oo
  obtain ⟨a, a1, a2, a3⟩ := laws_markInt64S_eq (l := s.Head) hk (by omega)
  obtain ⟨b, b1, b2, b3⟩ := laws_markInt64S_eq (l := s.Tail) (k := k + s.Head.length) (by omega) (by omega)
  simp only [a1, a2, b1, b2, Option.bind_some, if_true]
  refine ⟨_, rfl, a2, b2, fun z => ?_⟩
  unfold laws_heldSynth
  have d1 : ¬ (k + (s.Head.length : Int) < 0) := by omega
  have d2 : ¬ (k + (s.Head.length : Int) + (s.Tail.length : Int) < 0) := by omega
  simp only [a3, b3, d1, d2, Option.bind_some, decide_eq_true_eq, if_false]
def cntRecv (s : SReceiver) : Int := s.A.Gains.length + s.B.Gains.length + s.Synth.Head.length + s.Synth.Tail.length + s.Last.length
theorem heldHeldS_nil {k : Int} : laws_heldHeldS [] k = some k := by
  unfold laws_heldHeldS
  rw [loopO_eq]
  simp [laws_heldHeldS_s1]
theorem eqHeldS_nil : laws_eqHeldS [] [] = some true := by
  unfold laws_eqHeldS
  rw [loopO_eq]
  simp [laws_eqHeldS_s1]
theorem markReceiver0_eq {s : SReceiver} {k : Int} (hk : 0 ≤ k) (h : k + cntRecv s ≤ maxI) : ∃ s', laws_markReceiver_eooooo s k = some (k + cntRecv s, s') ∧ s'.A.Gains.length = s.A.Gains.length ∧ s'.B.Gains.length = s.B.Gains.length ∧ s'.Synth.Head.length = s.Synth.Head.length ∧ s'.Synth.Tail.length = s.Synth.Tail.length ∧ s'.Last.length = s.Last.length ∧
    ∀ a b c d e f g i j l, laws_heldReceiver ⟨a, b, [], ⟨c, d, e, s'.A.Gains⟩, ⟨f, g, i, s'.B.Gains⟩, ⟨j, s'.Synth.Head, s'.Synth.Tail⟩, s'.Last, l⟩ k = some (k + cntRecv s) := by
  unfold cntRecv at h ⊢
  unfold laws_markReceiver_eooooo laws_markHeldS_e
  obtain ⟨a, a1, a2, a3⟩ := markAnchor_eq (s := s.A) (k := k) (by omega) (by omega)
  obtain ⟨b, b1, b2, b3⟩ := markAnchor_eq (s := s.B) (k := k + s.A.Gains.length) (by omega) (by omega)
  obtain ⟨c, c1, c2, c3, c4⟩ := markSynth_eq (s := s.Synth) (k := k + s.A.Gains.length + s.B.Gains.length) (by omega) (by omega)
  obtain ⟨d, d1, d2, d3⟩ := laws_markInt64S_eq (l := s.Last) (k := k + s.A.Gains.length + s.B.Gains.length + s.Synth.Head.length + s.Synth.Tail.length) (by omega) (by omega)
  simp only [a1, a2, b1, b2, c1, c2, c3, d1, d2, Option.bind_some, if_true]
  refine ⟨_, by rw [show k + (s.A.Gains.length : Int) + s.B.Gains.length + s.Synth.Head.length + s.Synth.Tail.length + s.Last.length = k + (s.A.Gains.length + s.B.Gains.length + s.Synth.Head.length + s.Synth.Tail.length + s.Last.length) by omega], a2, b2, c2, c3, d2, ?_⟩
  intros
  unfold laws_heldReceiver laws_heldReceiver_u1
  have e0 : ¬ (k < 0) := by omega
  have e1 : ¬ (k + (s.A.Gains.length : Int) < 0) := by omega
  have e2 : ¬ (k + (s.A.Gains.length : Int) + s.B.Gains.length < 0) := by omega
  have e3 : ¬ (k + (s.A.Gains.length : Int) + s.B.Gains.length + s.Synth.Head.length + s.Synth.Tail.length < 0) := by omega
  have e4 : ¬ (k + (s.A.Gains.length : Int) + s.B.Gains.length + s.Synth.Head.length + s.Synth.Tail.length + s.Last.length < 0) := by omega
  simp only [heldHeldS_nil, a3, b3, c4, d3, Option.bind_some, decide_eq_true_eq, e0, e1, e2, e3, e4, if_false]
  simp only [Int.add_assoc]
theorem eqReceiver0_self {s : SReceiver} (h0 : s.Held = []) (h1 : (s.A.Gains.length : Int) ≤ maxI) (h2 : (s.B.Gains.length : Int) ≤ maxI) (h3 : (s.Synth.Head.length : Int) ≤ maxI) (h4 : (s.Synth.Tail.length : Int) ≤ maxI) (h5 : (s.Last.length : Int) ≤ maxI) : laws_eqReceiver s s = some true := by
  unfold laws_eqReceiver laws_eqReceiver_u2 laws_eqReceiver_u1 laws_eqAnchor laws_eqSynth
  rw [h0]
  simp [eqHeldS_nil, laws_eqInt64S_self h1, laws_eqInt64S_self h2, laws_eqInt64S_self h3, laws_eqInt64S_self h4, laws_eqInt64S_self h5]
/-- What a new receiver comes to. -/
def newRecv (a : Int) : SReceiver := ⟨a, 0, [], ⟨false, 0, 0, []⟩, ⟨false, 0, 0, []⟩, ⟨a, List.replicate (a / 2).toNat 0, List.replicate (a / 2).toNat 0⟩, List.replicate a.toNat 0, 0⟩
def noRecv : SReceiver := ⟨0, 0, [], ⟨false, 0, 0, []⟩, ⟨false, 0, 0, []⟩, ⟨0, [], []⟩, [], 0⟩
def newRecvR (a : Int) : SReceiverResult := if spec_SizeFault a = 0 then ⟨0, newRecv a⟩ else ⟨3, noRecv⟩
theorem half_eq {a : Int} (h : a = 4 ∨ a = 8 ∨ a = 16) : IntKind.i64.wrap (a.tdiv 2) = a / 2 ∧ 0 ≤ a / 2 ∧ a / 2 ≤ 8 := by rcases h with rfl | rfl | rfl <;> decide
theorem newRecv_spec (a : Int) : spec_NewReceiver a = some (newRecvR a) := by
  unfold spec_NewReceiver newRecvR
  by_cases h0 : spec_SizeFault a = 0
  · have hz := size_zero.1 h0
    obtain ⟨e, e1, e2⟩ := half_eq hz
    have z : spec_l1Zeros (a / 2) = some (List.replicate (a / 2).toNat 0) := by unfold spec_l1Zeros; rw [if_pos (okMake_8 e1 (by omega))]
    have z2 : spec_l1Zeros a = some (List.replicate a.toNat 0) := by unfold spec_l1Zeros; rw [if_pos (okMake_8 (by omega) (by omega))]
    simp only [h0, bne_self_eq_false, Bool.false_eq_true, if_false, spec_l18New, spec_l7NewSynth, e, z, z2, Option.bind_some, if_true, newRecv]
  · have : spec_SizeFault a = 3 := (size_cases (n := a)).resolve_left h0
    simp [this, noRecv]
theorem newRecv_impl (a : Int) : impl_NewReceiver a = some (newRecvR a) := by
  unfold impl_NewReceiver impl_NewSynth newRecvR
  rw [size_same]
  by_cases h0 : spec_SizeFault a = 0
  · have hz := size_zero.1 h0
    obtain ⟨e, e1, e2⟩ := half_eq hz
    have z : okMake 8 (a / 2) = true := okMake_8 e1 (by omega)
    have z2 : okMake 8 a = true := okMake_8 (by omega) (by omega)
    simp only [h0, bne_self_eq_false, Bool.false_eq_true, if_false, impl_NewSynth_u1, e, z, z2, if_true, Option.bind_some, newRecv]
  · have : spec_SizeFault a = 3 := (size_cases (n := a)).resolve_left h0
    simp only [this]
    rw [if_pos (by decide)]
    simp [noRecv]
theorem newRecvR_len (a : Int) : (newRecvR a).Receiver.Held = [] ∧ (newRecvR a).Receiver.A.Gains.length = 0 ∧ (newRecvR a).Receiver.B.Gains.length = 0 ∧ (newRecvR a).Receiver.Synth.Head.length ≤ 8 ∧ (newRecvR a).Receiver.Synth.Tail.length ≤ 8 ∧ (newRecvR a).Receiver.Last.length ≤ 16 := by
  unfold newRecvR
  split
  · rename_i h
    have hz := size_zero.1 h
    obtain ⟨e, e1, e2⟩ := half_eq hz
    refine ⟨rfl, rfl, rfl, ?_, ?_, ?_⟩ <;> simp only [newRecv, List.length_replicate] <;> omega
  · simp [noRecv]
--REST0
--REST0
theorem pure (a : Int) (ha : WfI .i64 a) : laws_FnExactNewReceiver a = some true := by
  unfold laws_FnExactNewReceiver
  obtain ⟨l0, l1, l2, l3, l4, l5⟩ := newRecvR_len a
  simp only [newRecv_spec, newRecv_impl, Option.bind_some]
  generalize hr : newRecvR a = r at *
  have m1 : (r.Receiver.A.Gains.length : Int) ≤ maxI := by unfold maxI; omega
  have m2 : (r.Receiver.B.Gains.length : Int) ≤ maxI := by unfold maxI; omega
  have m3 : (r.Receiver.Synth.Head.length : Int) ≤ maxI := by unfold maxI; omega
  have m4 : (r.Receiver.Synth.Tail.length : Int) ≤ maxI := by unfold maxI; omega
  have m5 : (r.Receiver.Last.length : Int) ≤ maxI := by unfold maxI; omega
  have eta : ∀ r : SReceiverResult, r.Receiver.Held = [] → SReceiverResult.mk r.Code (SReceiver.mk r.Receiver.Size r.Receiver.Next [] r.Receiver.A r.Receiver.B r.Receiver.Synth r.Receiver.Last r.Receiver.Lost) = r := fun r h => by rw [← h]
  have eta2 : SReceiver.mk r.Receiver.Size r.Receiver.Next [] r.Receiver.A r.Receiver.B r.Receiver.Synth r.Receiver.Last r.Receiver.Lost = r.Receiver := by rw [← l0]
  have eA : ∀ t : SAnchor, SAnchor.mk t.Known t.Number t.Rung t.Gains = t := fun _ => rfl
  have eY : ∀ t : SSynth, SSynth.mk t.Size t.Head t.Tail = t := fun _ => rfl
  have eq : laws_eqReceiverResult r r = some true := by
    unfold laws_eqReceiverResult
    simp [eqReceiver0_self l0 m1 m2 m3 m4 m5]
  have hcnt : 0 ≤ cntRecv r.Receiver ∧ cntRecv r.Receiver ≤ 32 := by unfold cntRecv; omega
  obtain ⟨s', k1, k2, k3, k4, k5, k6, k7⟩ := markReceiver0_eq (s := r.Receiver) (k := 1) (by omega) (by unfold maxI; omega)
  have d1 : ¬ (1 + cntRecv r.Receiver < 0) := by omega
  simp only [eta r l0, eq, if_true, laws_markReceiverResult_eooooo, eta2, k1, k2, k3, k4, k5, k6, Option.bind_some, laws_FnExactNewReceiver_u2, laws_FnExactNewReceiver_u1, laws_heldReceiverResult, k7, decide_eq_true_eq, d1, if_false, bne_self_eq_false, Bool.false_eq_true, newRecv_impl, hr, eA, eY, eq, if_true]
end FnExactNewReceiver
end Go.Proofs.Ytjgdnpockaijeaa.Wm
