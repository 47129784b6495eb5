/- What FnExactEnvelopeAt comes to on plain values: true. -/
import Derived.Test.YtpioljlgmhehhaaFnBFnExactEnvelopeAt
set_option linter.unusedSimpArgs false
set_option linter.unusedVariables false
set_option maxRecDepth 100000
namespace Go.Proofs.Ytpioljlgmhehhaa.Wm
open Go
namespace FnExactEnvelopeAt
theorem laws_toInt64S_eq {l : List Int} (hl : (l.length : Int) ≤ 35184372088832) : laws_toInt64S l = some l := by
  unfold laws_toInt64S
  rw [if_pos (okMake_8 (by omega) hl), Int.toNat_natCast]
  obtain ⟨t, h1, rfl⟩ := loop_rule (step := laws_toInt64S_s1 l) (fun i s => s.2 = i ∧ s.1.length = l.length ∧ ∀ j, j < i → s.1[j]? = l[j]?) (fun t => t = l) l.length (by
    rintro i ⟨a, k⟩ hi ⟨hk, ha, hj⟩
    simp only at hk ha hj
    subst hk
    simp only [laws_toInt64S_s1, decide_eq_true_eq]
    rcases Nat.lt_or_ge i l.length with h | h
    · left
      obtain ⟨x, hx, _⟩ := get_lt h
      obtain ⟨y, hy, _⟩ := get_lt (l := a) (i := i) (by omega)
      rw [if_pos (by omega), getI_nat, hx, getI_nat, hy, Int.toNat_natCast, hy, w64 (by omega)]
      refine ⟨h, _, rfl, by simp, by simp [ha], fun j hj' => ?_⟩
      simp only [List.getElem?_set]
      split
      · rename_i e; subst e; rw [if_pos (by omega), hx]
      · exact hj j (by omega)
    · right
      rw [if_neg (by omega)]
      exact ⟨a, rfl, list_ext ha fun j hj' => hj j (by omega)⟩) (s := (List.replicate l.length 0, 0)) ⟨rfl, by simp, fun j hj => by omega⟩
  rw [h1]; rfl
theorem laws_eqInt64S_self {l : List Int} (hl : (l.length : Int) ≤ maxI) : laws_eqInt64S l l = some true := by
  unfold maxI at hl
  unfold laws_eqInt64S
  rw [if_neg (by simp)]
  obtain ⟨t, h1, rfl⟩ := loop_rule (step := laws_eqInt64S_s1 l l) (fun i s => s = (i : Int)) (fun t => t = .inl ()) l.length (by
    rintro i s hi rfl
    simp only [laws_eqInt64S_s1, decide_eq_true_eq]
    rcases Nat.lt_or_ge i l.length with h | h
    · left
      obtain ⟨x, hx, _⟩ := get_lt h
      rw [if_pos (by omega), getI_nat, hx, w64 (by omega)]
      simp only [Option.bind_some, bne_self_eq_false, Bool.false_eq_true, if_false]
      exact ⟨h, _, rfl, by simp⟩
    · right
      rw [if_neg (by omega)]
      exact ⟨_, rfl, rfl⟩) (s := 0) rfl
  rw [h1]; rfl
theorem laws_heldInt64S_eq {l : List Int} {k : Int} (hk : 0 ≤ k) (hs : k + l.length ≤ maxI) (h : ∀ (j : Nat), j < l.length → l[j]? = some (k + j)) : laws_heldInt64S l k = some (k + l.length) := by
  unfold maxI at hs
  unfold laws_heldInt64S
  obtain ⟨t, h1, rfl⟩ := loop_rule (step := laws_heldInt64S_s1 l) (fun i s => s = (k + (i : Int), (i : Int))) (fun t => t = .inl (k + (l.length : Int))) l.length (by
    rintro i s hi rfl
    simp only [laws_heldInt64S_s1, decide_eq_true_eq]
    rcases Nat.lt_or_ge i l.length with hh | hh
    · left
      rw [if_pos (by omega), getI_nat, h i hh, w64 (by omega), w64 (by omega)]
      simp only [Option.bind_some, bne_self_eq_false, Bool.false_eq_true, if_false]
      exact ⟨hh, _, rfl, by simp only [Prod.mk.injEq]; omega⟩
    · right
      obtain rfl : i = l.length := by omega
      rw [if_neg (by omega)]
      exact ⟨_, rfl, rfl⟩) (s := (k, 0)) (by simp)
  rw [h1]; rfl
theorem laws_markInt64S_eq {l : List Int} {k : Int} (hk : 0 ≤ k) (hs : k + l.length ≤ maxI) : ∃ l', laws_markInt64S l k = some (k + l.length, l') ∧ l'.length = l.length ∧ laws_heldInt64S l' k = some (k + l.length) := by
  have hs' := hs
  unfold maxI at hs
  unfold laws_markInt64S
  obtain ⟨t, h1, h2, h3, h4⟩ := loop_rule (step := laws_markInt64S_s1) (fun i s => s.2.1 = k + (i : Int) ∧ s.2.2 = (i : Int) ∧ s.1.length = l.length ∧ ∀ (j : Nat), j < i → s.1[j]? = some (k + j)) (fun t => t.2 = k + (l.length : Int) ∧ t.1.length = l.length ∧ ∀ (j : Nat), j < l.length → t.1[j]? = some (k + j)) l.length (by
    rintro i ⟨a, m, n⟩ hi ⟨hm, hn, ha, hj⟩
    simp only at hm hn ha hj
    subst hm; subst hn
    simp only [laws_markInt64S_s1, decide_eq_true_eq]
    rcases Nat.lt_or_ge i l.length with hh | hh
    · left
      obtain ⟨y, hy, _⟩ := get_lt (l := a) (i := i) (by omega)
      rw [if_pos (by omega), getI_nat, hy, Int.toNat_natCast, hy, w64 (by omega), w64 (by omega)]
      refine ⟨hh, _, rfl, by simp; omega, by simp, by simp [ha], fun j hj' => ?_⟩
      simp only [List.getElem?_set]
      split
      · rename_i e; subst e; rw [if_pos (by omega)]
      · exact hj j (by omega)
    · right
      obtain rfl : i = l.length := by omega
      rw [if_neg (by omega)]
      exact ⟨_, rfl, rfl, ha, hj⟩) (s := (l, k, 0)) ⟨by simp, rfl, rfl, fun j hj => by omega⟩
  rw [h1]
  obtain ⟨a, b⟩ := t
  simp only at h2 h3 h4
  subst h2
  refine ⟨a, rfl, h3, ?_⟩
  have := laws_heldInt64S_eq (l := a) hk (by rw [h3]; exact hs') (by rw [h3]; exact h4)
  rw [h3] at this
  exact this
theorem toInt64SS_eq {l : List (List Int)} (hl : (l.length : Int) ≤ 1048576) (hw : ∀ x ∈ l, (x.length : Int) ≤ 1048576) : laws_toInt64SS l = some l := by
  unfold laws_toInt64SS
  rw [if_pos (okMake_of (by omega) (by simp; omega) (by omega)), Int.toNat_natCast, copy_loop (fun a i x y hx hy ha => ?_) (fun a => ?_) (by unfold maxI; omega)]
  · rfl
  · have hi : i < l.length := (List.getElem?_eq_some_iff.1 hx).1
    simp only [laws_toInt64SS_s1, decide_eq_true_eq]
    rw [if_pos (by omega), getI_nat, hx]
    have hm := hw x (List.mem_of_getElem? hx)
    simp only [Option.bind_some, laws_toInt64S_eq (l := x) (by omega)]
    rw [getI_nat, hy, Int.toNat_natCast, hy]; rfl
  · simp only [laws_toInt64SS_s1, decide_eq_true_eq]; rw [if_neg (by omega)]
structure OutOk (s : SOutcome) : Prop where
  lows : (s.Sent.Lows.length : Int) ≤ 1048576
  gains : (s.Sent.Gains.length : Int) ≤ 1048576
  pulses : (s.Sent.Pulses.length : Int) ≤ 1048576
  pulse : ∀ x ∈ s.Sent.Pulses, (x.length : Int) ≤ 1048576
  codes : (s.Codes.length : Int) ≤ 1048576
  frame : (s.Frame.length : Int) ≤ 1048576
  coefs : (s.Coefs.length : Int) ≤ 1048576
  bounds : (s.Bounds.length : Int) ≤ 1048576
theorem toFrame_eq {s : SFrame} (h1 : (s.Lows.length : Int) ≤ 1048576) (h2 : (s.Gains.length : Int) ≤ 1048576) (h3 : (s.Pulses.length : Int) ≤ 1048576) (h4 : ∀ x ∈ s.Pulses, (x.length : Int) ≤ 1048576) : laws_toFrame s = some s := by
  unfold laws_toFrame
  rw [laws_toInt64S_eq (by omega), laws_toInt64S_eq (by omega), toInt64SS_eq h3 h4]; rfl
theorem toOutcome_eq {s : SOutcome} (h : OutOk s) : laws_toOutcome s = some s := by
  obtain ⟨h1, h2, h3, h4, h5, h6, h7, h8⟩ := h
  unfold laws_toOutcome
  rw [toFrame_eq h1 h2 h3 h4, laws_toInt64S_eq (by omega), laws_toInt64S_eq (by omega), laws_toInt64S_eq (by omega), laws_toInt64S_eq (by omega)]; rfl
theorem toOutcomeS_eq {l : List SOutcome} (hl : (l.length : Int) ≤ 1048576) (hw : ∀ x ∈ l, OutOk x) : laws_toOutcomeS l = some l := by
  unfold laws_toOutcomeS
  rw [if_pos (okMake_of (by omega) (by simp; omega) (by omega)), Int.toNat_natCast, copy_loop (fun a i x y hx hy ha => ?_) (fun a => ?_) (by unfold maxI; omega)]
  · rfl
  · have hi : i < l.length := (List.getElem?_eq_some_iff.1 hx).1
    simp only [laws_toOutcomeS_s1, decide_eq_true_eq]
    rw [if_pos (by omega), getI_nat, hx]
    simp only [Option.bind_some, toOutcome_eq (hw x (List.mem_of_getElem? hx))]
    rw [getI_nat, hy, Int.toNat_natCast, hy]; rfl
  · simp only [laws_toOutcomeS_s1, decide_eq_true_eq]; rw [if_neg (by omega)]
theorem szI_spec {l : List Int} {n : Int} (hn : 0 ≤ n ∧ n ≤ 1048576) (hl : (l.length : Int) ≤ maxI) : laws_szInt64S l n < 0 ∨ (0 ≤ laws_szInt64S l n ∧ laws_szInt64S l n ≤ n ∧ (l.length : Int) ≤ n) := by
  unfold maxI at hl
  simp only [laws_szInt64S, decide_eq_true_eq]
  rw [w64 (by omega)]
  split <;> omega
theorem szII_spec {l : List (List Int)} {n : Int} (hn : 0 ≤ n ∧ n ≤ 1048576) (hl : (l.length : Int) ≤ maxI) (hw : ∀ x ∈ l, (x.length : Int) ≤ maxI) :
    ∃ r, laws_szInt64SS l n = some r ∧ (r < 0 ∨ (0 ≤ r ∧ r ≤ n ∧ (l.length : Int) ≤ n ∧ ∀ x ∈ l, (x.length : Int) ≤ n)) := by
  unfold maxI at hl
  unfold laws_szInt64SS
  rw [w64 (by omega)]
  by_cases h0 : n - l.length < 0
  · rw [if_pos (decide_eq_true h0)]; exact ⟨_, rfl, .inl (by omega)⟩
  · rw [if_neg (by simpa using h0)]
    obtain ⟨t, q1, q2⟩ := loop_rule (step := laws_szInt64SS_s1 l) (fun i s => s.2 = (i : Int) ∧ 0 ≤ s.1 ∧ s.1 ≤ n ∧ ∀ j x, j < i → l[j]? = some x → (x.length : Int) ≤ n)
        (fun t => (∃ r, t = .inl r ∧ 0 ≤ r ∧ r ≤ n ∧ ∀ x ∈ l, (x.length : Int) ≤ n) ∨ t = .inr ()) l.length (by
      rintro i ⟨a, k⟩ hi ⟨hk, h1, h2, hj⟩
      simp only at hk h1 h2 hj
      subst hk
      simp only [laws_szInt64SS_s1, decide_eq_true_eq]
      rcases Nat.lt_or_ge i l.length with h | h
      · obtain ⟨x, hx, hm⟩ := get_lt h
        rw [if_pos (by omega), getI_nat, hx, w64 (n := (i : Int) + 1) (by omega)]
        simp only [Option.bind_some]
        by_cases hc : laws_szInt64S x a < 0
        · right; rw [if_pos hc]; exact ⟨_, rfl, .inr rfl⟩
        · left
          rw [if_neg hc]
          rcases szI_spec (l := x) (n := a) (by omega) (hw x hm) with e | ⟨e1, e2, e3⟩
          · omega
          · refine ⟨h, _, rfl, by simp, e1, by simp only []; omega, fun j y hj' hy => ?_⟩
            rcases Nat.lt_or_ge j i with hji | hji
            · exact hj j y hji hy
            · obtain rfl : j = i := by omega
              rw [hx] at hy; obtain rfl := Option.some.inj hy; omega
      · right
        rw [if_neg (by omega)]
        refine ⟨_, rfl, .inl ⟨a, rfl, h1, h2, fun x hx => ?_⟩⟩
        obtain ⟨j, hj'⟩ := List.getElem?_of_mem hx
        exact hj j x (by have := (List.getElem?_eq_some_iff.1 hj').1; omega) hj') (s := (n - l.length, 0)) ⟨rfl, by simp only []; omega, by simp only []; omega, fun j x hj => by omega⟩
    rw [q1]
    rcases q2 with ⟨r, rfl, h1, h2, h3⟩ | rfl
    · exact ⟨r, rfl, .inr ⟨h1, h2, by omega, h3⟩⟩
    · exact ⟨-1, rfl, .inl (by omega)⟩
theorem szO_spec {s : SOutcome} {n : Int} (hn : 0 ≤ n ∧ n ≤ 1048576) (w : s.Wf) : ∃ r, laws_szOutcome s n = some r ∧ (r < 0 ∨ (0 ≤ r ∧ r ≤ n ∧ OutOk s)) := by
  obtain ⟨_, ⟨_, _, _, _, _, ⟨w1, _⟩, ⟨w2, _⟩, w3, w4⟩, ⟨w5, _⟩, _, _, _, ⟨w6, _⟩, ⟨w7, _⟩, ⟨w8, _⟩⟩ := w
  unfold laws_szOutcome laws_szFrame laws_szOutcome_u1
  simp only [decide_eq_true_eq]
  rcases szI_spec (l := s.Sent.Lows) hn w1 with e | ⟨a1, a2, a3⟩
  · rw [if_pos e]; exact ⟨_, rfl, .inl (by omega)⟩
  rw [if_neg (by omega)]
  rcases szI_spec (l := s.Sent.Gains) (n := laws_szInt64S s.Sent.Lows n) (by omega) w2 with e | ⟨b1, b2, b3⟩
  · rw [if_pos e]; exact ⟨_, rfl, .inl (by omega)⟩
  rw [if_neg (by omega)]
  obtain ⟨r, c1, c2⟩ := szII_spec (l := s.Sent.Pulses) (n := laws_szInt64S s.Sent.Gains (laws_szInt64S s.Sent.Lows n)) (by omega) w3 (fun x hx => (w4 x hx).1)
  rw [c1]
  simp only [Option.bind_some]
  rcases c2 with c2 | ⟨c2, c3, c4, c5⟩
  · rw [if_pos c2]; exact ⟨_, rfl, .inl (by omega)⟩
  rw [if_neg (by omega)]
  simp only [Option.bind_some]
  rw [if_neg (by omega)]
  rcases szI_spec (l := s.Codes) (n := r) (by omega) w5 with e | ⟨d1, d2, d3⟩
  · rw [if_pos e]; exact ⟨_, rfl, .inl (by omega)⟩
  rw [if_neg (by omega)]
  rcases szI_spec (l := s.Frame) (n := laws_szInt64S s.Codes r) (by omega) w6 with e | ⟨f1, f2, f3⟩
  · rw [if_pos e]; exact ⟨_, rfl, .inl (by omega)⟩
  rw [if_neg (by omega)]
  rcases szI_spec (l := s.Coefs) (n := laws_szInt64S s.Frame (laws_szInt64S s.Codes r)) (by omega) w7 with e | ⟨g1, g2, g3⟩
  · rw [if_pos e]; exact ⟨_, rfl, .inl (by omega)⟩
  rw [if_neg (by omega)]
  rcases szI_spec (l := s.Bounds) (n := laws_szInt64S s.Coefs (laws_szInt64S s.Frame (laws_szInt64S s.Codes r))) (by omega) w8 with e | ⟨k1, k2, k3⟩
  · rw [if_pos e]; exact ⟨_, rfl, .inl (by omega)⟩
  rw [if_neg (by omega)]
  exact ⟨_, rfl, .inr ⟨k1, by omega, ⟨by omega, by omega, by omega, fun x hx => by have := c5 x hx; omega, by omega, by omega, by omega, by omega⟩⟩⟩
theorem szOS_spec {l : List SOutcome} {n : Int} (hn : 0 ≤ n ∧ n ≤ 1048576) (hl : (l.length : Int) ≤ maxI) (hw : ∀ x ∈ l, x.Wf) :
    ∃ r, laws_szOutcomeS l n = some r ∧ (r < 0 ∨ (0 ≤ r ∧ r ≤ n ∧ (l.length : Int) ≤ n ∧ ∀ x ∈ l, OutOk x)) := by
  unfold maxI at hl
  unfold laws_szOutcomeS
  rw [w64 (by omega)]
  by_cases h0 : n - l.length < 0
  · rw [if_pos (decide_eq_true h0)]; exact ⟨_, rfl, .inl (by omega)⟩
  · rw [if_neg (by simpa using h0)]
    obtain ⟨t, q1, q2⟩ := loop_rule (step := laws_szOutcomeS_s1 l) (fun i s => s.2 = (i : Int) ∧ 0 ≤ s.1 ∧ s.1 ≤ n ∧ ∀ j x, j < i → l[j]? = some x → OutOk x)
        (fun t => (∃ r, t = .inl r ∧ 0 ≤ r ∧ r ≤ n ∧ ∀ x ∈ l, OutOk x) ∨ t = .inr ()) l.length (by
      rintro i ⟨a, k⟩ hi ⟨hk, h1, h2, hj⟩
      simp only at hk h1 h2 hj
      subst hk
      simp only [laws_szOutcomeS_s1, decide_eq_true_eq]
      rcases Nat.lt_or_ge i l.length with h | h
      · obtain ⟨x, hx, hm⟩ := get_lt h
        rw [if_pos (by omega), getI_nat, hx, w64 (n := (i : Int) + 1) (by omega)]
        obtain ⟨r, e1, e2⟩ := szO_spec (s := x) (n := a) (by omega) (hw x hm)
        simp only [Option.bind_some, e1]
        by_cases hc : r < 0
        · right; rw [if_pos hc]; exact ⟨_, rfl, .inr rfl⟩
        · left
          rw [if_neg hc]
          rcases e2 with e | ⟨e1, e2, e3⟩
          · omega
          · refine ⟨h, _, rfl, by simp, e1, by simp only []; omega, fun j y hj' hy => ?_⟩
            rcases Nat.lt_or_ge j i with hji | hji
            · exact hj j y hji hy
            · obtain rfl : j = i := by omega
              rw [hx] at hy; obtain rfl := Option.some.inj hy; exact e3
      · right
        rw [if_neg (by omega)]
        refine ⟨_, rfl, .inl ⟨a, rfl, h1, h2, fun x hx => ?_⟩⟩
        obtain ⟨j, hj'⟩ := List.getElem?_of_mem hx
        exact hj j x (by have := (List.getElem?_eq_some_iff.1 hj').1; omega) hj') (s := (n - l.length, 0)) ⟨rfl, by simp only []; omega, by simp only []; omega, fun j x hj => by omega⟩
    rw [q1]
    rcases q2 with ⟨r, rfl, h1, h2, h3⟩ | rfl
    · exact ⟨r, rfl, .inr ⟨h1, h2, by omega, h3⟩⟩
    · exact ⟨-1, rfl, .inl (by omega)⟩
theorem eqInt64SS_self {l : List (List Int)} (hl : (l.length : Int) ≤ 1048576) (hw : ∀ x ∈ l, (x.length : Int) ≤ 1048576) : laws_eqInt64SS l l = some true := by
  unfold laws_eqInt64SS
  rw [if_neg (by simp)]
  obtain ⟨t, h1, rfl⟩ := loop_rule (step := laws_eqInt64SS_s1 l l) (fun i s => s = (i : Int)) (fun t => t = .inl ()) l.length (by
    rintro i s hi rfl
    simp only [laws_eqInt64SS_s1, decide_eq_true_eq]
    rcases Nat.lt_or_ge i l.length with h | h
    · left
      obtain ⟨x, hx, hm⟩ := get_lt h
      rw [if_pos (by omega), getI_nat, hx, w64 (by omega)]
      simp only [Option.bind_some, laws_eqInt64S_self (l := x) (by have := hw x hm; unfold maxI; omega), if_true]
      exact ⟨h, _, rfl, by simp⟩
    · right
      rw [if_neg (by omega)]
      exact ⟨_, rfl, rfl⟩) (s := 0) rfl
  rw [h1]; rfl
theorem eqPlan_self {s : SPlan} : laws_eqPlan s s = true := by simp [laws_eqPlan]
theorem eqFrame_self {s : SFrame} (h1 : (s.Lows.length : Int) ≤ 1048576) (h2 : (s.Gains.length : Int) ≤ 1048576) (h3 : (s.Pulses.length : Int) ≤ 1048576) (h4 : ∀ x ∈ s.Pulses, (x.length : Int) ≤ 1048576) : laws_eqFrame s s = some true := by
  have e1 := laws_eqInt64S_self (l := s.Lows) (by unfold maxI; omega)
  have e2 := laws_eqInt64S_self (l := s.Gains) (by unfold maxI; omega)
  have e3 := eqInt64SS_self h3 h4
  simp [laws_eqFrame, laws_eqFrame_u1, laws_eqFrame_u2, e1, e2, e3]
theorem eqOutcome_self {s : SOutcome} (h : OutOk s) : laws_eqOutcome s s = some true := by
  obtain ⟨h1, h2, h3, h4, h5, h6, h7, h8⟩ := h
  have e1 := laws_eqInt64S_self (l := s.Codes) (by unfold maxI; omega)
  have e2 := laws_eqInt64S_self (l := s.Frame) (by unfold maxI; omega)
  have e3 := laws_eqInt64S_self (l := s.Coefs) (by unfold maxI; omega)
  have e4 := laws_eqInt64S_self (l := s.Bounds) (by unfold maxI; omega)
  have e5 := eqFrame_self h1 h2 h3 h4
  have eP : SPlan.mk s.Plan.Spread s.Plan.Paths s.Plan.IntraA s.Plan.IntraB = s.Plan := rfl
  have eF : SFrame.mk s.Sent.Number s.Sent.Size s.Sent.Rung s.Sent.Mask s.Sent.Spread s.Sent.Lows s.Sent.Gains s.Sent.Pulses = s.Sent := rfl
  first
    | simp [laws_eqOutcome, laws_eqOutcome_u1, laws_eqOutcome_u2, laws_eqOutcome_u3, laws_eqOutcome_u4, laws_eqOutcome_u5, laws_eqOutcome_u6, laws_eqOutcome_u7, laws_eqOutcome_u8, eP, eF, eqPlan_self, e1, e2, e3, e4, e5]
    | simp [laws_eqOutcome, laws_eqOutcome_u1, laws_eqOutcome_u2, eP, eF, eqPlan_self, e1, e2, e3, e4, e5]
theorem eqOutcomeS_self {l : List SOutcome} (hl : (l.length : Int) ≤ 1048576) (hw : ∀ x ∈ l, OutOk x) : laws_eqOutcomeS l l = some true := by
  unfold laws_eqOutcomeS
  rw [if_neg (by simp)]
  obtain ⟨t, h1, rfl⟩ := loop_rule (step := laws_eqOutcomeS_s1 l l) (fun i s => s = (i : Int)) (fun t => t = .inl ()) l.length (by
    rintro i s hi rfl
    simp only [laws_eqOutcomeS_s1, decide_eq_true_eq]
    rcases Nat.lt_or_ge i l.length with h | h
    · left
      obtain ⟨x, hx, hm⟩ := get_lt h
      rw [if_pos (by omega), getI_nat, hx, w64 (by omega)]
      simp only [Option.bind_some, eqOutcome_self (hw x hm), if_true]
      exact ⟨h, _, rfl, by simp⟩
    · right
      rw [if_neg (by omega)]
      exact ⟨_, rfl, rfl⟩) (s := 0) rfl
  rw [h1]; rfl
theorem markInt64SS_eq {l : List (List Int)} {k : Int} (hk : 0 ≤ k ∧ k ≤ 4611686018427387904) (hl : (l.length : Int) ≤ 1048576) (hw : ∀ x ∈ l, (x.length : Int) ≤ 1048576) :
    ∃ k' l', laws_markInt64SS l k = some (k', l') ∧ k ≤ k' ∧ k' ≤ k + 1099511627776 ∧ l'.length = l.length ∧ ∀ x ∈ l', (x.length : Int) ≤ 1048576 := by
  unfold laws_markInt64SS
  obtain ⟨t, h1, h2, h3, h4, h5⟩ := loop_rule (step := laws_markInt64SS_s1) (fun i s => k ≤ s.2.1 ∧ s.2.1 ≤ k + i * 1048576 ∧ s.2.2 = (i : Int) ∧ s.1.length = l.length ∧ ∀ x ∈ s.1, (x.length : Int) ≤ 1048576) (fun t => k ≤ t.2 ∧ t.2 ≤ k + 1099511627776 ∧ t.1.length = l.length ∧ ∀ x ∈ t.1, (x.length : Int) ≤ 1048576) l.length (by
    rintro i ⟨a, m, n⟩ hi ⟨hm1, hm2, hn, ha, hj⟩
    simp only at hm1 hm2 hn ha hj
    subst hn
    simp only [laws_markInt64SS_s1, decide_eq_true_eq]
    rcases Nat.lt_or_ge i l.length with hh | hh
    · left
      obtain ⟨x, hx, hxm⟩ := get_lt (l := a) (i := i) (by omega)
      have hxl := hj x hxm
      obtain ⟨x', m1, m2, _⟩ := laws_markInt64S_eq (l := x) (k := m) (by omega) (by unfold maxI; omega)
      rw [if_pos (by omega), getI_nat, hx, Int.toNat_natCast, hx, w64 (by omega)]
      simp only [Option.bind_some, m1, m2, if_true]
      refine ⟨hh, _, rfl, by simp only []; omega, by simp only []; omega, by simp, by simp [ha], fun y hy => ?_⟩
      rcases List.mem_or_eq_of_mem_set hy with e | e
      · exact hj y e
      · rw [e, m2]; exact hxl
    · right
      rw [if_neg (by omega)]
      exact ⟨_, rfl, hm1, by simp only []; omega, ha, hj⟩) (s := (l, k, 0)) ⟨by simp, by simp, rfl, rfl, hw⟩
  rw [h1]
  exact ⟨_, _, rfl, h2, h3, h4, h5⟩
def InvO (L : Nat) (a : List SOutcome) : Prop := a.length = L ∧ ∀ x ∈ a, OutOk x
theorem InvO.set {L : Nat} {a : List SOutcome} (h : InvO L a) {i : Nat} {x : SOutcome} (hx : OutOk x) : InvO L (a.set i x) := by
  refine ⟨by rw [List.length_set]; exact h.1, fun y hy => ?_⟩
  rcases List.mem_or_eq_of_mem_set hy with e | e
  · exact h.2 y e
  · rw [e]; exact hx
theorem markO_u1 {L i : Nat} {a : List SOutcome} {k : Int} (h : InvO L a) (hi : i < L) : ∃ a', laws_markOutcomeS_u1 a k (i : Int) = some a' ∧ InvO L a' := by
  obtain ⟨x, hx, hm⟩ := get_lt (l := a) (i := i) (by rw [h.1]; exact hi)
  have o := h.2 x hm
  refine ⟨_, by unfold laws_markOutcomeS_u1; rw [getI_nat, hx, Int.toNat_natCast, hx]; rfl, ?_⟩
  exact h.set ⟨o.lows, o.gains, o.pulses, o.pulse, o.codes, o.frame, o.coefs, o.bounds⟩
theorem markO_u2 {L i : Nat} {a : List SOutcome} {k : Int} (h : InvO L a) (hi : i < L) : ∃ a', laws_markOutcomeS_u2 a k (i : Int) = some a' ∧ InvO L a' := by
  obtain ⟨x, hx, hm⟩ := get_lt (l := a) (i := i) (by rw [h.1]; exact hi)
  have o := h.2 x hm
  refine ⟨_, by unfold laws_markOutcomeS_u2; rw [getI_nat, hx, Int.toNat_natCast, hx]; rfl, ?_⟩
  exact h.set ⟨o.lows, o.gains, o.pulses, o.pulse, o.codes, o.frame, o.coefs, o.bounds⟩
theorem markO_u3 {L i : Nat} {a : List SOutcome} {k : Int} (h : InvO L a) (hi : i < L) : ∃ a', laws_markOutcomeS_u3 a k (i : Int) = some a' ∧ InvO L a' := by
  obtain ⟨x, hx, hm⟩ := get_lt (l := a) (i := i) (by rw [h.1]; exact hi)
  have o := h.2 x hm
  refine ⟨_, by unfold laws_markOutcomeS_u3; rw [getI_nat, hx, Int.toNat_natCast, hx]; rfl, ?_⟩
  exact h.set ⟨o.lows, o.gains, o.pulses, o.pulse, o.codes, o.frame, o.coefs, o.bounds⟩
theorem markO_u4 {L i : Nat} {a : List SOutcome} {k : Int} (h : InvO L a) (hi : i < L) : ∃ a', laws_markOutcomeS_u4 a k (i : Int) = some a' ∧ InvO L a' := by
  obtain ⟨x, hx, hm⟩ := get_lt (l := a) (i := i) (by rw [h.1]; exact hi)
  have o := h.2 x hm
  refine ⟨_, by unfold laws_markOutcomeS_u4; rw [getI_nat, hx, Int.toNat_natCast, hx]; rfl, ?_⟩
  exact h.set ⟨o.lows, o.gains, o.pulses, o.pulse, o.codes, o.frame, o.coefs, o.bounds⟩
theorem markO_u5 {L i : Nat} {a : List SOutcome} {k : Int} (h : InvO L a) (hi : i < L) : ∃ a', laws_markOutcomeS_u5 a k (i : Int) = some a' ∧ InvO L a' := by
  obtain ⟨x, hx, hm⟩ := get_lt (l := a) (i := i) (by rw [h.1]; exact hi)
  have o := h.2 x hm
  refine ⟨_, by unfold laws_markOutcomeS_u5; rw [getI_nat, hx, Int.toNat_natCast, hx]; rfl, ?_⟩
  exact h.set ⟨o.lows, o.gains, o.pulses, o.pulse, o.codes, o.frame, o.coefs, o.bounds⟩
theorem markO_u6 {L i : Nat} {a : List SOutcome} {k : Int} (h : InvO L a) (hi : i < L) : ∃ a', laws_markOutcomeS_u6 a k (i : Int) = some a' ∧ InvO L a' := by
  obtain ⟨x, hx, hm⟩ := get_lt (l := a) (i := i) (by rw [h.1]; exact hi)
  have o := h.2 x hm
  refine ⟨_, by unfold laws_markOutcomeS_u6; rw [getI_nat, hx, Int.toNat_natCast, hx]; rfl, ?_⟩
  exact h.set ⟨o.lows, o.gains, o.pulses, o.pulse, o.codes, o.frame, o.coefs, o.bounds⟩
theorem markO_u7 {L i : Nat} {a : List SOutcome} {k : Int} (h : InvO L a) (hi : i < L) : ∃ a', laws_markOutcomeS_u7 a k (i : Int) = some a' ∧ InvO L a' := by
  obtain ⟨x, hx, hm⟩ := get_lt (l := a) (i := i) (by rw [h.1]; exact hi)
  have o := h.2 x hm
  refine ⟨_, by unfold laws_markOutcomeS_u7; rw [getI_nat, hx, Int.toNat_natCast, hx]; rfl, ?_⟩
  exact h.set ⟨o.lows, o.gains, o.pulses, o.pulse, o.codes, o.frame, o.coefs, o.bounds⟩
theorem markO_u8 {L i : Nat} {a : List SOutcome} {k : Int} (h : InvO L a) (hi : i < L) : ∃ a', laws_markOutcomeS_u8 a k (i : Int) = some a' ∧ InvO L a' := by
  obtain ⟨x, hx, hm⟩ := get_lt (l := a) (i := i) (by rw [h.1]; exact hi)
  have o := h.2 x hm
  refine ⟨_, by unfold laws_markOutcomeS_u8; rw [getI_nat, hx, Int.toNat_natCast, hx]; rfl, ?_⟩
  exact h.set ⟨o.lows, o.gains, o.pulses, o.pulse, o.codes, o.frame, o.coefs, o.bounds⟩
theorem markO_u9 {L i : Nat} {a : List SOutcome} {k : Int} (h : InvO L a) (hi : i < L) : ∃ a', laws_markOutcomeS_u9 a k (i : Int) = some a' ∧ InvO L a' := by
  obtain ⟨x, hx, hm⟩ := get_lt (l := a) (i := i) (by rw [h.1]; exact hi)
  have o := h.2 x hm
  refine ⟨_, by unfold laws_markOutcomeS_u9; rw [getI_nat, hx, Int.toNat_natCast, hx]; rfl, ?_⟩
  exact h.set ⟨o.lows, o.gains, o.pulses, o.pulse, o.codes, o.frame, o.coefs, o.bounds⟩
theorem markO_u10 {L i : Nat} {a : List SOutcome} {k : Int} (h : InvO L a) (hi : i < L) (hk : 0 ≤ k ∧ k ≤ 4611686018427387904) : ∃ a' k', laws_markOutcomeS_u10 a k (i : Int) = some (a', k') ∧ InvO L a' ∧ k ≤ k' ∧ k' ≤ k + 1048576 := by
  obtain ⟨x, hx, hm⟩ := get_lt (l := a) (i := i) (by rw [h.1]; exact hi)
  have o := h.2 x hm
  have ol := o.lows
  obtain ⟨l', m1, m2, _⟩ := laws_markInt64S_eq (l := x.Sent.Lows) (k := k) (by omega) (by unfold maxI; omega)
  refine ⟨_, _, by unfold laws_markOutcomeS_u10; rw [getI_nat, hx, Int.toNat_natCast, hx]; simp only [Option.bind_some, m1, m2, if_true]; rfl, ?_, by omega, by omega⟩
  exact h.set ⟨by rw [m2]; exact o.lows, o.gains, o.pulses, o.pulse, o.codes, o.frame, o.coefs, o.bounds⟩
theorem markO_u11 {L i : Nat} {a : List SOutcome} {k : Int} (h : InvO L a) (hi : i < L) (hk : 0 ≤ k ∧ k ≤ 4611686018427387904) : ∃ a' k', laws_markOutcomeS_u11 a k (i : Int) = some (a', k') ∧ InvO L a' ∧ k ≤ k' ∧ k' ≤ k + 1048576 := by
  obtain ⟨x, hx, hm⟩ := get_lt (l := a) (i := i) (by rw [h.1]; exact hi)
  have o := h.2 x hm
  have ol := o.gains
  obtain ⟨l', m1, m2, _⟩ := laws_markInt64S_eq (l := x.Sent.Gains) (k := k) (by omega) (by unfold maxI; omega)
  refine ⟨_, _, by unfold laws_markOutcomeS_u11; rw [getI_nat, hx, Int.toNat_natCast, hx]; simp only [Option.bind_some, m1, m2, if_true]; rfl, ?_, by omega, by omega⟩
  exact h.set ⟨o.lows, by rw [m2]; exact o.gains, o.pulses, o.pulse, o.codes, o.frame, o.coefs, o.bounds⟩
theorem markO_u13 {L i : Nat} {a : List SOutcome} {k : Int} (h : InvO L a) (hi : i < L) (hk : 0 ≤ k ∧ k ≤ 4611686018427387904) : ∃ a' k', laws_markOutcomeS_u13 a k (i : Int) = some (a', k') ∧ InvO L a' ∧ k ≤ k' ∧ k' ≤ k + 1048576 := by
  obtain ⟨x, hx, hm⟩ := get_lt (l := a) (i := i) (by rw [h.1]; exact hi)
  have o := h.2 x hm
  have ol := o.codes
  obtain ⟨l', m1, m2, _⟩ := laws_markInt64S_eq (l := x.Codes) (k := k) (by omega) (by unfold maxI; omega)
  refine ⟨_, _, by unfold laws_markOutcomeS_u13; rw [getI_nat, hx, Int.toNat_natCast, hx]; simp only [Option.bind_some, m1, m2, if_true]; rfl, ?_, by omega, by omega⟩
  exact h.set ⟨o.lows, o.gains, o.pulses, o.pulse, by rw [m2]; exact o.codes, o.frame, o.coefs, o.bounds⟩
theorem markO_u14 {L i : Nat} {a : List SOutcome} {k : Int} (h : InvO L a) (hi : i < L) : ∃ a', laws_markOutcomeS_u14 a k (i : Int) = some a' ∧ InvO L a' := by
  obtain ⟨x, hx, hm⟩ := get_lt (l := a) (i := i) (by rw [h.1]; exact hi)
  have o := h.2 x hm
  refine ⟨_, by unfold laws_markOutcomeS_u14; rw [getI_nat, hx, Int.toNat_natCast, hx]; rfl, ?_⟩
  exact h.set ⟨o.lows, o.gains, o.pulses, o.pulse, o.codes, o.frame, o.coefs, o.bounds⟩
theorem markO_u15 {L i : Nat} {a : List SOutcome} {k : Int} (h : InvO L a) (hi : i < L) : ∃ a', laws_markOutcomeS_u15 a k (i : Int) = some a' ∧ InvO L a' := by
  obtain ⟨x, hx, hm⟩ := get_lt (l := a) (i := i) (by rw [h.1]; exact hi)
  have o := h.2 x hm
  refine ⟨_, by unfold laws_markOutcomeS_u15; rw [getI_nat, hx, Int.toNat_natCast, hx]; rfl, ?_⟩
  exact h.set ⟨o.lows, o.gains, o.pulses, o.pulse, o.codes, o.frame, o.coefs, o.bounds⟩
theorem markO_u16 {L i : Nat} {a : List SOutcome} {k : Int} (h : InvO L a) (hi : i < L) : ∃ a', laws_markOutcomeS_u16 a k (i : Int) = some a' ∧ InvO L a' := by
  obtain ⟨x, hx, hm⟩ := get_lt (l := a) (i := i) (by rw [h.1]; exact hi)
  have o := h.2 x hm
  refine ⟨_, by unfold laws_markOutcomeS_u16; rw [getI_nat, hx, Int.toNat_natCast, hx]; rfl, ?_⟩
  exact h.set ⟨o.lows, o.gains, o.pulses, o.pulse, o.codes, o.frame, o.coefs, o.bounds⟩
theorem markO_u17 {L i : Nat} {a : List SOutcome} {k : Int} (h : InvO L a) (hi : i < L) (hk : 0 ≤ k ∧ k ≤ 4611686018427387904) : ∃ a' k', laws_markOutcomeS_u17 a k (i : Int) = some (a', k') ∧ InvO L a' ∧ k ≤ k' ∧ k' ≤ k + 1048576 := by
  obtain ⟨x, hx, hm⟩ := get_lt (l := a) (i := i) (by rw [h.1]; exact hi)
  have o := h.2 x hm
  have ol := o.frame
  obtain ⟨l', m1, m2, _⟩ := laws_markInt64S_eq (l := x.Frame) (k := k) (by omega) (by unfold maxI; omega)
  refine ⟨_, _, by unfold laws_markOutcomeS_u17; rw [getI_nat, hx, Int.toNat_natCast, hx]; simp only [Option.bind_some, m1, m2, if_true]; rfl, ?_, by omega, by omega⟩
  exact h.set ⟨o.lows, o.gains, o.pulses, o.pulse, o.codes, by rw [m2]; exact o.frame, o.coefs, o.bounds⟩
theorem markO_u18 {L i : Nat} {a : List SOutcome} {k : Int} (h : InvO L a) (hi : i < L) (hk : 0 ≤ k ∧ k ≤ 4611686018427387904) : ∃ a' k', laws_markOutcomeS_u18 a k (i : Int) = some (a', k') ∧ InvO L a' ∧ k ≤ k' ∧ k' ≤ k + 1048576 := by
  obtain ⟨x, hx, hm⟩ := get_lt (l := a) (i := i) (by rw [h.1]; exact hi)
  have o := h.2 x hm
  have ol := o.coefs
  obtain ⟨l', m1, m2, _⟩ := laws_markInt64S_eq (l := x.Coefs) (k := k) (by omega) (by unfold maxI; omega)
  refine ⟨_, _, by unfold laws_markOutcomeS_u18; rw [getI_nat, hx, Int.toNat_natCast, hx]; simp only [Option.bind_some, m1, m2, if_true]; rfl, ?_, by omega, by omega⟩
  exact h.set ⟨o.lows, o.gains, o.pulses, o.pulse, o.codes, o.frame, by rw [m2]; exact o.coefs, o.bounds⟩
theorem markO_u19 {L i : Nat} {a : List SOutcome} {k : Int} (h : InvO L a) (hi : i < L) (hk : 0 ≤ k ∧ k ≤ 4611686018427387904) : ∃ a' k', laws_markOutcomeS_u19 a k (i : Int) = some (a', k') ∧ InvO L a' ∧ k ≤ k' ∧ k' ≤ k + 1048576 := by
  obtain ⟨x, hx, hm⟩ := get_lt (l := a) (i := i) (by rw [h.1]; exact hi)
  have o := h.2 x hm
  have ol := o.bounds
  obtain ⟨l', m1, m2, _⟩ := laws_markInt64S_eq (l := x.Bounds) (k := k) (by omega) (by unfold maxI; omega)
  refine ⟨_, _, by unfold laws_markOutcomeS_u19; rw [getI_nat, hx, Int.toNat_natCast, hx]; simp only [Option.bind_some, m1, m2, if_true]; rfl, ?_, by omega, by omega⟩
  exact h.set ⟨o.lows, o.gains, o.pulses, o.pulse, o.codes, o.frame, o.coefs, by rw [m2]; exact o.bounds⟩
theorem markO_u12 {L i : Nat} {a : List SOutcome} {k : Int} (h : InvO L a) (hi : i < L) (hk : 0 ≤ k ∧ k ≤ 4611686018427387904) : ∃ a' k', laws_markOutcomeS_u12 a k (i : Int) = some (a', k') ∧ InvO L a' ∧ k ≤ k' ∧ k' ≤ k + 1099511627776 := by
  obtain ⟨x, hx, hm⟩ := get_lt (l := a) (i := i) (by rw [h.1]; exact hi)
  have o := h.2 x hm
  obtain ⟨k', l', m1, m2, m3, m4, m5⟩ := markInt64SS_eq (l := x.Sent.Pulses) (k := k) hk o.pulses o.pulse
  refine ⟨_, _, by unfold laws_markOutcomeS_u12; rw [getI_nat, hx, Int.toNat_natCast, hx]; simp only [Option.bind_some, m1, m4, if_true]; rfl, ?_, m2, m3⟩
  exact h.set ⟨o.lows, o.gains, by rw [m4]; exact o.pulses, m5, o.codes, o.frame, o.coefs, o.bounds⟩
theorem markOutcomeS_eq {l : List SOutcome} (hl : (l.length : Int) ≤ 1048576) (hw : ∀ x ∈ l, OutOk x) : ∃ k' l', laws_markOutcomeS l 1 = some (k', l') ∧ 0 ≤ k' ∧ l'.length = l.length := by
  unfold laws_markOutcomeS
  obtain ⟨t, h1, h2, h3⟩ := loop_rule (step := laws_markOutcomeS_s20) (fun i s => InvO l.length s.1 ∧ 1 ≤ s.2.1 ∧ s.2.1 ≤ 1 + i * 2199023255552 ∧ s.2.2 = (i : Int)) (fun t => 0 ≤ t.2 ∧ t.1.length = l.length) l.length (by
    rintro i ⟨a, m, n⟩ hi ⟨hI, hm1, hm2, hn⟩
    simp only at hI hm1 hm2 hn
    subst hn
    simp only [laws_markOutcomeS_s20, decide_eq_true_eq]
    have hla := hI.1
    rcases Nat.lt_or_ge i l.length with hh | hh
    · left
      rw [if_pos (by omega)]
      have hb : m ≤ 2305843009213693953 := by omega
      rw [w64 (n := m + 1) (by omega), w64 (n := m + 1 + 1) (by omega), w64 (n := m + 1 + 1 + 1) (by omega), w64 (n := m + 1 + 1 + 1 + 1) (by omega), w64 (n := m + 1 + 1 + 1 + 1 + 1) (by omega), w64 (n := m + 1 + 1 + 1 + 1 + 1 + 1) (by omega), w64 (n := m + 1 + 1 + 1 + 1 + 1 + 1 + 1) (by omega), w64 (n := m + 1 + 1 + 1 + 1 + 1 + 1 + 1 + 1) (by omega), w64 (n := m + 1 + 1 + 1 + 1 + 1 + 1 + 1 + 1 + 1) (by omega)]
      obtain ⟨a1, e1, i1⟩ := markO_u1 (k := m) hI hh
      obtain ⟨a2, e2, i2⟩ := markO_u2 (k := m + 1) i1 hh
      obtain ⟨a3, e3, i3⟩ := markO_u3 (k := m + 1 + 1) i2 hh
      obtain ⟨a4, e4, i4⟩ := markO_u4 (k := m + 1 + 1 + 1) i3 hh
      obtain ⟨a5, e5, i5⟩ := markO_u5 (k := m + 1 + 1 + 1 + 1) i4 hh
      obtain ⟨a6, e6, i6⟩ := markO_u6 (k := m + 1 + 1 + 1 + 1 + 1) i5 hh
      obtain ⟨a7, e7, i7⟩ := markO_u7 (k := m + 1 + 1 + 1 + 1 + 1 + 1) i6 hh
      obtain ⟨a8, e8, i8⟩ := markO_u8 (k := m + 1 + 1 + 1 + 1 + 1 + 1 + 1) i7 hh
      obtain ⟨a9, e9, i9⟩ := markO_u9 (k := m + 1 + 1 + 1 + 1 + 1 + 1 + 1 + 1) i8 hh
      obtain ⟨a10, k10, e10, i10, b10, c10⟩ := markO_u10 (k := m + 1 + 1 + 1 + 1 + 1 + 1 + 1 + 1 + 1) i9 hh (by omega)
      obtain ⟨a11, k11, e11, i11, b11, c11⟩ := markO_u11 (k := k10) i10 hh (by omega)
      obtain ⟨a12, k12, e12, i12, b12, c12⟩ := markO_u12 (k := k11) i11 hh (by omega)
      obtain ⟨a13, k13, e13, i13, b13, c13⟩ := markO_u13 (k := k12) i12 hh (by omega)
      obtain ⟨a14, e14, i14⟩ := markO_u14 (k := k13) i13 hh
      obtain ⟨a15, e15, i15⟩ := markO_u15 (k := k13 + 1) i14 hh
      obtain ⟨a16, e16, i16⟩ := markO_u16 (k := k13 + 1 + 1) i15 hh
      obtain ⟨a17, k17, e17, i17, b17, c17⟩ := markO_u17 (k := k13 + 1 + 1 + 1) i16 hh (by omega)
      obtain ⟨a18, k18, e18, i18, b18, c18⟩ := markO_u18 (k := k17) i17 hh (by omega)
      obtain ⟨a19, k19, e19, i19, b19, c19⟩ := markO_u19 (k := k18) i18 hh (by omega)
      simp only [e1, e2, e3, e4, e5, e6, e7, e8, e9, e10, e11, e12, e13, Option.bind_some]
      rw [w64 (n := k13 + 1) (by omega), w64 (n := k13 + 1 + 1) (by omega), w64 (n := k13 + 1 + 1 + 1) (by omega), w64 (n := (i : Int) + 1) (by omega)]
      simp only [e14, e15, e16, e17, e18, e19, Option.bind_some]
      exact ⟨hh, _, rfl, i19, by simp only []; omega, by simp only []; omega, by simp⟩
    · right
      rw [if_neg (by omega)]
      exact ⟨_, rfl, by simp only []; omega, hla⟩) (s := (l, 1, 0)) ⟨⟨rfl, hw⟩, by simp, by simp, rfl⟩
  rw [h1]
  exact ⟨_, _, rfl, h2, h3⟩
theorem impl_inRange_eq {a b c : Int} : impl_inRange a b c = decide (b ≤ a ∧ a ≤ c) := by
  simp only [impl_inRange, impl_inRange_u1, decide_eq_true_eq]
  by_cases h1 : b ≤ a <;> by_cases h2 : a ≤ c <;> simp [h1, h2]
def firstL : List Int → Int
  | [] => 0
  | x :: l => if x ≠ 0 then x else firstL l
theorem firstL_skip : ∀ {i : Nat} {l : List Int}, (∀ j x, j < i → l[j]? = some x → x = 0) → firstL l = firstL (l.drop i)
  | 0, l, h => by simp
  | i + 1, [], h => by simp
  | i + 1, x :: l, h => by
    have := h 0 x (by omega) rfl
    subst this
    simp only [firstL, ne_eq, not_true, if_false, List.drop_succ_cons]
    exact firstL_skip fun j x hj hx => h (j + 1) x (by omega) (by simpa using hx)
theorem impl_first_eq {l : List Int} (hl : (l.length : Int) ≤ maxI) : impl_first l = some (firstL l) := by
  unfold maxI at hl
  unfold impl_first
  obtain ⟨t, h1, h2⟩ := loop_rule (step := impl_first_s1 l (l.length : Int)) (fun i s => s = (i : Int) ∧ ∀ j x, j < i → l[j]? = some x → x = 0)
      (fun t => (t = .inl () ∧ firstL l = 0) ∨ (t = .inr (firstL l))) l.length (by
    rintro i s hi ⟨rfl, hj⟩
    simp only [impl_first_s1, decide_eq_true_eq]
    rcases Nat.lt_or_ge i l.length with h | h
    · obtain ⟨x, hx, hm⟩ := get_lt h
      rw [if_pos (by omega), getI_nat, hx, w64 (by omega)]
      simp only [Option.bind_some, bne_iff_ne, ne_eq]
      by_cases hp : x = 0
      · left
        rw [if_neg (by simp [hp])]
        refine ⟨h, _, rfl, by simp, fun j y hj' hy => ?_⟩
        rcases Nat.lt_or_ge j i with hji | hji
        · exact hj j y hji hy
        · obtain rfl : j = i := by omega
          rw [hx] at hy; obtain rfl := Option.some.inj hy; exact hp
      · right
        rw [if_pos hp]
        refine ⟨_, rfl, .inr ?_⟩
        rw [firstL_skip hj, List.drop_eq_getElem_cons h, firstL]
        have : l[i] = x := by rw [List.getElem?_eq_getElem h] at hx; exact Option.some.inj hx
        rw [this, if_pos hp]
    · right
      rw [if_neg (by omega)]
      refine ⟨_, rfl, .inl ⟨rfl, ?_⟩⟩
      rw [firstL_skip hj, List.drop_eq_nil_of_le h]; rfl) (s := 0) ⟨rfl, fun j x hj => by omega⟩
  rw [h1]
  rcases h2 with ⟨rfl, h⟩ | rfl
  · simp [h]
  · simp
theorem impl_codeIf_eq {b : Bool} {c : Int} : impl_codeIf b c = if b = true then c else 0 := rfl
theorem size_same {n : Int} : impl_SizeFault n = spec_SizeFault n := rfl
theorem size_cases {n : Int} : spec_SizeFault n = 0 ∨ spec_SizeFault n = 3 := by
  unfold spec_SizeFault
  simp only []
  split
  · exact .inr rfl
  · exact .inl rfl
theorem spec_l1In_eq {a b c : Int} : spec_l1In a b c = decide (b ≤ a ∧ a ≤ c) := by
  simp only [spec_l1In, spec_l1In_u1, decide_eq_true_eq]
  by_cases h1 : b ≤ a <;> by_cases h2 : a ≤ c <;> simp [h1, h2]
theorem spec_l1All_eq {l : List Int} {a b : Int} (hl : (l.length : Int) ≤ maxI) : spec_l1All l a b = some (decide (∀ x ∈ l, a ≤ x ∧ x ≤ b)) := by
  unfold maxI at hl
  unfold spec_l1All
  obtain ⟨t, h1, h2⟩ := loop_rule (step := spec_l1All_s1 l a b) (fun i s => s = (i : Int) ∧ ∀ j x, j < i → l[j]? = some x → a ≤ x ∧ x ≤ b)
      (fun t => (t = .inl () ∧ ∀ x ∈ l, a ≤ x ∧ x ≤ b) ∨ (t = .inr () ∧ ∃ x ∈ l, ¬ (a ≤ x ∧ x ≤ b))) l.length (by
    rintro i s hi ⟨rfl, hj⟩
    simp only [spec_l1All_s1, decide_eq_true_eq]
    rcases Nat.lt_or_ge i l.length with h | h
    · obtain ⟨x, hx, hm⟩ := get_lt h
      rw [if_pos (by omega), getI_nat, hx, w64 (by omega)]
      simp only [Option.bind_some, spec_l1In_eq, decide_eq_true_eq]
      by_cases hp : a ≤ x ∧ x ≤ b
      · left
        rw [if_pos hp]
        refine ⟨h, _, rfl, by simp, fun j y hj' hy => ?_⟩
        rcases Nat.lt_or_ge j i with hji | hji
        · exact hj j y hji hy
        · obtain rfl : j = i := by omega
          rw [hx] at hy; obtain rfl := Option.some.inj hy; exact hp
      · right
        rw [if_neg hp]
        exact ⟨_, rfl, .inr ⟨rfl, x, hm, hp⟩⟩
    · right
      rw [if_neg (by omega)]
      refine ⟨_, rfl, .inl ⟨rfl, fun x hx => ?_⟩⟩
      obtain ⟨j, hj'⟩ := List.getElem?_of_mem hx
      exact hj j x (by have := (List.getElem?_eq_some_iff.1 hj').1; omega) hj') (s := 0) ⟨rfl, fun j x hj => by omega⟩
  rw [h1]
  rcases h2 with ⟨rfl, h⟩ | ⟨rfl, x, hx, h⟩
  · simp only [Option.bind_some, Sum.elim_inl, Option.some.injEq]; exact (decide_eq_true h).symm
  · simp only [Option.bind_some, Sum.elim_inr, Option.some.injEq]; exact (decide_eq_false fun hh => h (hh x hx)).symm
theorem l1All_all {l : List Int} {a b : Int} (hl : (l.length : Int) ≤ maxI) : spec_l1All l a b = some (l.all fun x => decide (a ≤ x ∧ x ≤ b)) := by
  rw [spec_l1All_eq hl]
  congr 1
  rw [Bool.eq_iff_iff]
  simp
theorem loop_same {ς τ : Type} {step1 step2 : ς → Option (ς ⊕ τ)} (I : Nat → ς → Prop) (Q : τ → Prop) (n : Nat)
    (h : ∀ i s, i ≤ n → I i s → step1 s = step2 s ∧ ((i < n ∧ ∃ s', step2 s = some (.inl s') ∧ I (i + 1) s') ∨ ∃ t, step2 s = some (.inr t) ∧ Q t)) {s : ς} (h0 : I 0 s) : ∃ t, loopO step1 s = some t ∧ loopO step2 s = some t ∧ Q t := by
  have key : ∀ m i s, n - i = m → i ≤ n → I i s → ∃ t, loopO step1 s = some t ∧ loopO step2 s = some t ∧ Q t := by
    intro m
    induction m with
    | zero =>
      intro i s hm hi hI
      obtain ⟨e, h | ⟨t, h1, h2⟩⟩ := h i s hi hI
      · omega
      · exact ⟨t, by rw [loopO_eq, e, h1], by rw [loopO_eq, h1], h2⟩
    | succ m ih =>
      intro i s hm hi hI
      obtain ⟨e, ⟨h1, s', h2, h3⟩ | ⟨t, h1, h2⟩⟩ := h i s hi hI
      · obtain ⟨t, k1, k2, k3⟩ := ih (i + 1) s' (by omega) (by omega) h3
        exact ⟨t, by rw [loopO_eq, e, h2]; exact k1, by rw [loopO_eq, h2]; exact k2, k3⟩
      · exact ⟨t, by rw [loopO_eq, e, h1], by rw [loopO_eq, h1], h2⟩
  exact key (n - 0) 0 s rfl (Nat.zero_le _) h0
theorem ceil_spec {a b : Int} (ha : 0 ≤ a ∧ a ≤ 1152921504606846976) (hb : b = 2 ∨ b = 1024) : spec_l1Ceil a b = some ((a + (b - 1)) / b) := by
  unfold spec_l1Ceil
  rw [if_neg (by omega), w64 (n := a + b) (by omega), w64 (n := a + b - 1) (by omega), Int.tdiv_eq_ediv_of_nonneg (by omega)]
  have e : a + b - 1 = a + (b - 1) := by omega
  rw [e]
  rcases hb with rfl | rfl <;> rw [w64 (by omega)]
theorem ceil_impl {a b : Int} (ha : 0 ≤ a ∧ a ≤ 1152921504606846976) (hb : b = 2 ∨ b = 1024) : impl_ceilDiv a b = some ((a + (b - 1)) / b) := by
  unfold impl_ceilDiv impl_floorDiv impl_floorDiv_u1
  rw [w64 (n := 0 - a) (by omega), if_neg (by omega), if_neg (by omega)]
  have e1 : (0 - a).tdiv b = -(a / b) := by rw [Int.zero_sub, Int.neg_tdiv, Int.tdiv_eq_ediv_of_nonneg ha.1]
  have e2 : (0 - a).tmod b = -(a % b) := by rw [Int.zero_sub, Int.neg_tmod, Int.tmod_eq_emod_of_nonneg ha.1]
  rw [e1, e2]
  simp only [Option.bind_some, decide_eq_true_eq]
  rcases hb with rfl | rfl
  · rw [w64 (n := -(a / 2)) (by omega)]
    split
    · rw [w64 (n := -(a / 2) - 1) (by omega), w64 (by omega)]; congr 1; omega
    · rw [w64 (by omega)]; congr 1; omega
  · rw [w64 (n := -(a / 1024)) (by omega)]
    split
    · rw [w64 (n := -(a / 1024) - 1) (by omega), w64 (by omega)]; congr 1; omega
    · rw [w64 (by omega)]; congr 1; omega
/-- A rotation that there is. -/
def Rot (size n : Int) : Prop := (size = 4 ∧ 0 ≤ n ∧ n < 2) ∨ (size = 8 ∧ 0 ≤ n ∧ n < 4) ∨ (size = 16 ∧ 0 ≤ n ∧ n < 8)
theorem rot_cases {size n : Int} (h : Rot size n) : (size = 4 ∧ (n = 0 ∨ n = 1)) ∨ (size = 8 ∧ (n = 0 ∨ n = 1 ∨ n = 2 ∨ n = 3)) ∨ (size = 16 ∧ (n = 0 ∨ n = 1 ∨ n = 2 ∨ n = 3 ∨ n = 4 ∨ n = 5 ∨ n = 6 ∨ n = 7)) := by
  rcases h with ⟨h, a, b⟩ | ⟨h, a, b⟩ | ⟨h, a, b⟩
  · exact .inl ⟨h, by omega⟩
  · exact .inr (.inl ⟨h, by omega⟩)
  · exact .inr (.inr ⟨h, by omega⟩)
theorem rot_same {size n : Int} (h : Rot size n) : impl_turnOf size n = some ⟨spec_l5P size n, spec_l5U size n⟩ ∧ 0 ≤ spec_l5P size n ∧ spec_l5P size n ≤ 1000 ∧ 0 ≤ spec_l5U size n ∧ spec_l5U size n ≤ 1000 := by
  rcases rot_cases h with ⟨rfl, rfl | rfl⟩ | ⟨rfl, rfl | rfl | rfl | rfl⟩ | ⟨rfl, rfl | rfl | rfl | rfl | rfl | rfl | rfl | rfl⟩ <;> exact ⟨rfl, by decide⟩
theorem share_same {p e : Int} (hp : 0 ≤ p ∧ p ≤ 1000) (he : 0 ≤ e ∧ e ≤ 70368744177664) : ∃ r, spec_l8Share p e = some r ∧ impl_share p e = some r ∧ 0 ≤ r ∧ r ≤ e := by
  have h1 : 0 ≤ p * e := Int.mul_nonneg hp.1 he.1
  have h2 : p * e ≤ 1000 * e := Int.mul_le_mul_of_nonneg_right hp.2 he.1
  refine ⟨(p * e + 1023) / 1024, ?_, ?_, by omega, by omega⟩
  · unfold spec_l8Share
    rw [w64 (by omega), ceil_spec (by omega) (.inr rfl)]; rfl
  · unfold impl_share
    rw [w64 (by omega), ceil_impl (by omega) (.inr rfl)]; rfl
theorem turn_same {size n a b M : Int} (h : Rot size n) (ha : 0 ≤ a ∧ a ≤ M) (hb : 0 ≤ b ∧ b ≤ M) (hM : M ≤ 8796093022208) :
    ∃ x y, spec_l8Turn size n a b = some (x, y) ∧ impl_ofBounds_1 size n a b = some (x, y) ∧ 0 ≤ x ∧ x ≤ 5 * M ∧ 0 ≤ y ∧ y ≤ 3 * M := by
  obtain ⟨h1, h2, h3, h4, h5⟩ := rot_same h
  obtain ⟨r1, a1, b1, c1, d1⟩ := share_same ⟨h2, h3⟩ (e := b) (by omega)
  obtain ⟨r2, a2, b2, c2, d2⟩ := share_same ⟨h4, h5⟩ (e := a + r1) (by omega)
  obtain ⟨r3, a3, b3, c3, d3⟩ := share_same ⟨h2, h3⟩ (e := b + r2) (by omega)
  refine ⟨a + r1 + r3, b + r2, ?_, ?_, by omega, by omega, by omega, by omega⟩
  · unfold spec_l8Turn
    rw [a1]; simp only [Option.bind_some]
    rw [w64 (n := a + r1) (by omega), a2]; simp only [Option.bind_some]
    rw [w64 (n := b + r2) (by omega), a3]; simp only [Option.bind_some]
    rw [w64 (by omega)]
  · unfold impl_ofBounds_1 impl_turn_bounds
    rw [h1]; simp only [Option.bind_some]
    rw [b1]; simp only [Option.bind_some]
    rw [w64 (n := a + r1) (by omega), b2]; simp only [Option.bind_some]
    rw [w64 (n := b + r2) (by omega), b3]; simp only [Option.bind_some]
    rw [w64 (by omega)]
def evens : List Int → List Int
  | [] => []
  | [x] => [x]
  | x :: _ :: l => x :: evens l
def odds : List Int → List Int
  | [] => []
  | [_] => []
  | _ :: y :: l => y :: odds l
theorem halves_spec : ∀ (h : Nat) (l : List Int), l.length = 2 * h → (evens l).length = h ∧ (odds l).length = h ∧ (∀ x ∈ evens l, x ∈ l) ∧ ∀ x ∈ odds l, x ∈ l
  | 0, l, hl => by obtain rfl := List.eq_nil_of_length_eq_zero (by omega); simp [evens, odds]
  | h + 1, [], hl => by simp at hl
  | h + 1, [x], hl => by simp at hl; omega
  | h + 1, x :: y :: l, hl => by
    obtain ⟨a, b, c, d⟩ := halves_spec h l (by simp at hl; omega)
    refine ⟨by simp [evens, a], by simp [odds, b], fun z hz => ?_, fun z hz => ?_⟩
    · simp only [evens, List.mem_cons] at hz
      rcases hz with rfl | hz
      · simp
      · have := c z hz; simp [this]
    · simp only [odds, List.mem_cons] at hz
      rcases hz with rfl | hz
      · simp
      · have := d z hz; simp [this]
/-- A list parted by the parity of the places, two places a round. -/
theorem part_loop2 {l : List Int} {step : (List Int × List Int × Int) → Option ((List Int × List Int × Int) ⊕ (List Int × List Int))} (hl : l.length ≤ 1000000)
    (h1 : ∀ (a b : List Int) (i : Nat) (x y : Int), i + 1 < l.length → l[i]? = some x → l[i + 1]? = some y → a.length ≤ l.length → b.length ≤ l.length → step (a, b, (i : Int)) = some (.inl (a ++ [x], b ++ [y], (i : Int) + 2)))
    (h2 : ∀ (a b : List Int), step (a, b, (l.length : Int)) = some (.inr (a, b))) :
    ∀ (h : Nat) (t pre a b : List Int), l = pre ++ t → t.length = 2 * h → a.length + t.length ≤ l.length → b.length + t.length ≤ l.length → loopO step (a, b, (pre.length : Int)) = some (a ++ evens t, b ++ odds t)
  | 0, t, pre, a, b, e, ht, ha, hb => by
    obtain rfl := List.eq_nil_of_length_eq_zero (l := t) (by omega)
    simp only [List.append_nil] at e
    subst e
    rw [loopO_eq, h2]; simp [evens, odds]
  | h + 1, [], pre, a, b, e, ht, ha, hb => by simp at ht
  | h + 1, [x], pre, a, b, e, ht, ha, hb => by simp at ht; omega
  | h + 1, x :: y :: t, pre, a, b, e, ht, ha, hb => by
    have hlen : l.length = pre.length + (t.length + 2) := by rw [e]; simp
    simp only [List.length_cons] at ht ha hb
    rw [loopO_eq, h1 a b pre.length x y (by omega) (by rw [e]; simp) (by rw [e, List.getElem?_append_right (by omega)]; simp) (by omega) (by omega)]
    have e2 : l = (pre ++ [x, y]) ++ t := by rw [e]; simp
    have := part_loop2 hl h1 h2 h t (pre ++ [x, y]) (a ++ [x]) (b ++ [y]) e2 (by omega) (by simp; omega) (by simp; omega)
    simp only [List.length_append, List.length_cons, List.length_nil] at this
    have ec : ((pre.length + (0 + 1 + 1) : Nat) : Int) = (pre.length : Int) + 2 := by omega
    rw [ec] at this
    simp only []
    rw [this]
    simp [evens, odds]
/-- The same, one place a round. -/
theorem part_loop1 {l : List Int} {step : (List Int × List Int × Int) → Option ((List Int × List Int × Int) ⊕ (List Int × List Int))} (hl : l.length ≤ 1000000)
    (h1 : ∀ (a b : List Int) (i : Nat) (x : Int), l[i]? = some x → a.length ≤ l.length → b.length ≤ l.length → step (a, b, (i : Int)) = some (.inl (if i % 2 = 0 then (a ++ [x], b, (i : Int) + 1) else (a, b ++ [x], (i : Int) + 1))))
    (h2 : ∀ (a b : List Int), step (a, b, (l.length : Int)) = some (.inr (a, b))) :
    ∀ (h : Nat) (t pre a b : List Int), l = pre ++ t → t.length = 2 * h → pre.length % 2 = 0 → a.length + t.length ≤ l.length → b.length + t.length ≤ l.length → loopO step (a, b, (pre.length : Int)) = some (a ++ evens t, b ++ odds t)
  | 0, t, pre, a, b, e, ht, hp, ha, hb => by
    obtain rfl := List.eq_nil_of_length_eq_zero (l := t) (by omega)
    simp only [List.append_nil] at e
    subst e
    rw [loopO_eq, h2]; simp [evens, odds]
  | h + 1, [], pre, a, b, e, ht, hp, ha, hb => by simp at ht
  | h + 1, [x], pre, a, b, e, ht, hp, ha, hb => by simp at ht; omega
  | h + 1, x :: y :: t, pre, a, b, e, ht, hp, ha, hb => by
    have hlen : l.length = pre.length + (t.length + 2) := by rw [e]; simp
    simp only [List.length_cons] at ht ha hb
    rw [loopO_eq, h1 a b pre.length x (by rw [e]; simp) (by omega) (by omega), if_pos hp]
    simp only []
    have e1 : (pre.length : Int) + 1 = ((pre.length + 1 : Nat) : Int) := by omega
    rw [e1, loopO_eq, h1 (a ++ [x]) b (pre.length + 1) y (by rw [e, List.getElem?_append_right (by omega)]; simp) (by simp; omega) (by omega), if_neg (by omega)]
    simp only []
    have e2 : l = (pre ++ [x, y]) ++ t := by rw [e]; simp
    have := part_loop1 hl h1 h2 h t (pre ++ [x, y]) (a ++ [x]) (b ++ [y]) e2 (by omega) (by simp; omega) (by simp; omega) (by simp; omega)
    simp only [List.length_append, List.length_cons, List.length_nil] at this
    have ec : ((pre.length + (0 + 1 + 1) : Nat) : Int) = ((pre.length + 1 : Nat) : Int) + 1 := by omega
    rw [ec] at this
    rw [this]
    simp [evens, odds]
theorem get_set2 {l : List Int} {i j : Nat} {x y : Int} (hi : i < l.length) (hj : j < l.length) : (getI (l.set i x) (j : Int)) = some (if j = i then x else l[j]) := by
  rw [getI_nat, List.getElem?_set]
  by_cases h : i = j
  · subst h; simp [hi]
  · rw [if_neg h, if_neg (fun e => h e.symm), List.getElem?_eq_getElem hj]
theorem split_spec {k : Nat} {rec_ : List Int → Option (List Int)} {l : List Int} {h : Nat} (hl : l.length = 2 * h) (hs : l.length ≤ 1000) : loopO (spec_l8Gather_s1 k rec_ l (l.length : Int)) ([], [], 0) = some (evens l, odds l) := by
  have := part_loop2 (l := l) (step := spec_l8Gather_s1 k rec_ l (l.length : Int)) (by omega) (fun a b i x y hi hx hy ha hb => by
    simp only [spec_l8Gather_s1, decide_eq_true_eq]
    rw [w64 (n := (i : Int) + 1) (by omega), if_pos (by omega), getI_nat, hx]
    have e : (i : Int) + 1 = ((i + 1 : Nat) : Int) := by omega
    rw [e, getI_nat, hy]
    simp only [Option.bind_some]
    rw [if_pos (okApp_8 (by simp; omega)), if_pos (okApp_8 (by simp; omega)), w64 (by omega)]) (fun a b => by
    simp only [spec_l8Gather_s1, decide_eq_true_eq]
    rw [w64 (n := (l.length : Int) + 1) (by omega), if_neg (by omega)]) h l [] [] [] rfl hl (by simp) (by simp)
  simpa using this
theorem split_impl {k : Nat} {rec_ : Sundo → List Int → Option (List Int)} {l : List Int} {h : Nat} (hl : l.length = 2 * h) (hs : l.length ≤ 1000) : loopO (impl_undo_gather_ofBounds_s5 k rec_ l (l.length : Int)) ([], [], 0) = some (evens l, odds l) := by
  have := part_loop1 (l := l) (step := impl_undo_gather_ofBounds_s5 k rec_ l (l.length : Int)) (by omega) (fun a b i x hx ha hb => by
    have hi : i < l.length := (List.getElem?_eq_some_iff.1 hx).1
    simp only [impl_undo_gather_ofBounds_s5, impl_undo_gather_ofBounds_u4, impl_undo_gather_ofBounds_u3, decide_eq_true_eq]
    rw [if_pos (by omega), getI_nat, hx]
    simp only [Option.bind_some]
    have e : (i : Int).tmod 2 = ((i % 2 : Nat) : Int) := by rw [Int.tmod_eq_emod_of_nonneg (by omega)]; omega
    rw [e, w64 (n := (i : Int) + 1) (by omega)]
    by_cases hp : i % 2 = 0
    · rw [if_pos (by simp [hp]), if_pos (okApp_8 (by simp; omega)), if_pos hp]; rfl
    · rw [if_neg (by simp; omega), if_pos (okApp_8 (by simp; omega)), if_neg hp]; rfl) (fun a b => by
    simp only [impl_undo_gather_ofBounds_s5, decide_eq_true_eq]
    rw [if_neg (by omega)]) h l [] [] [] rfl hl rfl (by simp) (by simp)
  simpa using this
theorem rotate_same {k : Nat} {rec_ : List Int → Option (List Int)} {o sl d : List Int} {h q : Nat} {n : Int} {B : Int} (hn : n = 2 * (h : Int)) (hh : h = 2 * q) (hr : h = 2 ∨ h = 4 ∨ h = 8) (hd : d.length = h) (hB : 1 ≤ B ∧ B ≤ 8796093022208) (hw : ∀ x ∈ d, 0 ≤ x ∧ x ≤ B) :
    ∃ r, loopO (spec_l8Gather_s2 k rec_ sl n) (d, 0) = some r ∧ loopO (impl_undo_unite_ofBounds_s1 o sl n (q : Int)) (d, 0) = some r ∧ r.length = h ∧ ∀ x ∈ r, 0 ≤ x ∧ x ≤ 5 * B := by
  have n2 : IntKind.i64.wrap (n.tdiv 2) = (h : Int) := by rw [Int.tdiv_eq_ediv_of_nonneg (by omega), w64 (by omega)]; omega
  have n4 : IntKind.i64.wrap (n.tdiv 4) = (q : Int) := by rw [Int.tdiv_eq_ediv_of_nonneg (by omega), w64 (by omega)]; omega
  obtain ⟨t, h1, h2, h3, h4⟩ := loop_same (step1 := spec_l8Gather_s2 k rec_ sl n) (step2 := impl_undo_unite_ofBounds_s1 o sl n (q : Int))
      (fun i s => s.2 = (i : Int) ∧ s.1.length = h ∧ (∀ x ∈ s.1, 0 ≤ x ∧ x ≤ 5 * B) ∧ ∀ j x, i ≤ j → j < h - i → s.1[j]? = some x → x ≤ B)
      (fun t => t.length = h ∧ ∀ x ∈ t, 0 ≤ x ∧ x ≤ 5 * B) q (by
    rintro i ⟨e, c⟩ hi ⟨hc, hl, hb, hu⟩
    simp only at hc hl hb hu
    subst hc
    rcases Nat.lt_or_ge i q with hq | hq
    · obtain ⟨x, hx, mx⟩ := get_lt (l := e) (i := i) (by omega)
      obtain ⟨y, hy, my⟩ := get_lt (l := e) (i := h - 1 - i) (by omega)
      have bx := hu i x (by omega) (by omega) hx
      have by_ := hu (h - 1 - i) y (by omega) (by omega) hy
      obtain ⟨x', y', t1, t2, t3, t4, t5, t6⟩ := turn_same (size := n) (n := (i : Int)) (a := x) (b := y) (M := B) (by rcases hr with rfl | rfl | rfl <;> (subst hn; unfold Rot; omega)) ⟨(hb x mx).1, bx⟩ ⟨(hb y my).1, by_⟩ hB.2
      have e1 : IntKind.i64.wrap (IntKind.i64.wrap ((h : Int) - 1) - (i : Int)) = ((h - 1 - i : Nat) : Int) := by rw [w64 (n := (h : Int) - 1) (by omega), w64 (by omega)]; omega
      have hs : ∀ a, (e.set i a)[h - 1 - i]? = some y := fun a => by rw [List.getElem?_set_ne (by omega)]; exact hy
      have r1 : spec_l8Gather_s2 k rec_ sl n (e, (i : Int)) = some (.inl ((e.set i x').set (h - 1 - i) y', (i : Int) + 1)) := by
        simp only [spec_l8Gather_s2, decide_eq_true_eq]
        rw [n4, if_pos (by omega), n2, e1]
        simp only [getI_nat, Int.toNat_natCast, hx, hy, Option.bind_some, t1, hs]
        rw [w64 (by omega)]
      have r2 : impl_undo_unite_ofBounds_s1 o sl n (q : Int) (e, (i : Int)) = some (.inl ((e.set i x').set (h - 1 - i) y', (i : Int) + 1)) := by
        simp only [impl_undo_unite_ofBounds_s1, decide_eq_true_eq]
        rw [if_pos (by omega), n2, e1]
        simp only [getI_nat, Int.toNat_natCast, hx, hy, Option.bind_some, t2, hs]
        rw [w64 (by omega)]
      refine ⟨by rw [r1, r2], .inl ⟨hq, _, r2, by simp, by simp [hl], fun z hz => ?_, fun j z hj1 hj2 hz => ?_⟩⟩
      · rcases List.mem_or_eq_of_mem_set hz with hz | rfl
        · rcases List.mem_or_eq_of_mem_set hz with hz | rfl
          · exact hb z hz
          · omega
        · omega
      · simp only at hz
        rw [List.getElem?_set_ne (by omega), List.getElem?_set_ne (by omega)] at hz
        exact hu j z (by omega) (by omega) hz
    · have r1 : spec_l8Gather_s2 k rec_ sl n (e, (i : Int)) = some (.inr e) := by
        simp only [spec_l8Gather_s2, decide_eq_true_eq]
        rw [n4, if_neg (by omega)]
      have r2 : impl_undo_unite_ofBounds_s1 o sl n (q : Int) (e, (i : Int)) = some (.inr e) := by
        simp only [impl_undo_unite_ofBounds_s1, decide_eq_true_eq]
        rw [if_neg (by omega)]
      exact ⟨by rw [r1, r2], .inr ⟨_, r2, hl, hb⟩⟩) (s := (d, 0)) ⟨rfl, hd, fun x hx => by have := hw x hx; omega, fun j x _ _ hx => (hw x (List.mem_of_getElem? hx)).2⟩
  exact ⟨t, h1, h2, h3, h4⟩
theorem join_same {k : Nat} {rec_ : List Int → Option (List Int)} {sl d z : List Int} {h : Nat} {n : Int} {B : Int} (hn : n = 2 * (h : Int)) (hh : h ≤ 1000) (hs : sl.length = h) (hd : d.length = h) (hz : z.length = 2 * h) (hB : 1 ≤ B ∧ B ≤ 8796093022208) (hw : ∀ x ∈ sl, 0 ≤ x ∧ x ≤ B) (hv : ∀ x ∈ d, 0 ≤ x ∧ x ≤ 5 * B) (hu : ∀ x ∈ z, x = 0) :
    ∃ r, loopO (spec_l8Gather_s4 k rec_ sl d n) (z, 0) = some r ∧ loopO (impl_undo_unite_ofBounds_s2 d sl n (h : Int)) (z, 0) = some r ∧ r.length = 2 * h ∧ ∀ x ∈ r, 0 ≤ x ∧ x ≤ 4 * B := by
  have n2 : IntKind.i64.wrap (n.tdiv 2) = (h : Int) := by rw [Int.tdiv_eq_ediv_of_nonneg (by omega), w64 (by omega)]; omega
  obtain ⟨t, h1, h2, h3, h4⟩ := loop_same (step1 := spec_l8Gather_s4 k rec_ sl d n) (step2 := impl_undo_unite_ofBounds_s2 d sl n (h : Int))
      (fun i s => s.2 = (i : Int) ∧ s.1.length = 2 * h ∧ ∀ x ∈ s.1, 0 ≤ x ∧ x ≤ 4 * B) (fun t => t.length = 2 * h ∧ ∀ x ∈ t, 0 ≤ x ∧ x ≤ 4 * B) h (by
    rintro i ⟨e, c⟩ hi ⟨hc, hl, hb⟩
    simp only at hc hl hb
    subst hc
    rcases Nat.lt_or_ge i h with hq | hq
    · obtain ⟨x, hx, mx⟩ := get_lt (l := sl) (i := i) (by omega)
      obtain ⟨y, hy, my⟩ := get_lt (l := d) (i := i) (by omega)
      obtain ⟨u, hu1, mu⟩ := get_lt (l := e) (i := i) (by omega)
      obtain ⟨v, hv1, mv⟩ := get_lt (l := e) (i := 2 * h - 1 - i) (by omega)
      have bx := hw x mx
      have by_ := hv y my
      have e1 : IntKind.i64.wrap (IntKind.i64.wrap (n - 1) - (i : Int)) = ((2 * h - 1 - i : Nat) : Int) := by rw [w64 (n := n - 1) (by omega), w64 (by omega)]; omega
      have hs : ∀ a, (e.set i a)[2 * h - 1 - i]? = some v := fun a => by rw [List.getElem?_set_ne (by omega)]; exact hv1
      have r1 : spec_l8Gather_s4 k rec_ sl d n (e, (i : Int)) = some (.inl ((e.set i (x + (y + (2 - 1)) / 2)).set (2 * h - 1 - i) (x + (y + (2 - 1)) / 2), (i : Int) + 1)) := by
        simp only [spec_l8Gather_s4, decide_eq_true_eq]
        rw [n2, if_pos (by omega), e1]
        simp only [getI_nat, Int.toNat_natCast, hx, hy, Option.bind_some, hu1]
        rw [ceil_spec (by omega) (.inl rfl)]
        simp only [Option.bind_some]
        rw [w64 (n := x + (y + (2 - 1)) / 2) (by omega), w64 (n := (i : Int) + 1) (by omega), hs]
        rfl
      have r2 : impl_undo_unite_ofBounds_s2 d sl n (h : Int) (e, (i : Int)) = some (.inl ((e.set i (x + (y + (2 - 1)) / 2)).set (2 * h - 1 - i) (x + (y + (2 - 1)) / 2), (i : Int) + 1)) := by
        simp only [impl_undo_unite_ofBounds_s2, impl_partBounds, decide_eq_true_eq]
        rw [if_pos (by omega), e1]
        simp only [getI_nat, Int.toNat_natCast, hx, hy, Option.bind_some, hu1]
        rw [ceil_impl (by omega) (.inl rfl)]
        simp only [Option.bind_some]
        rw [w64 (n := x + (y + (2 - 1)) / 2) (by omega), w64 (n := (i : Int) + 1) (by omega), hs]
        rfl
      refine ⟨by rw [r1, r2], .inl ⟨hq, _, r2, by simp, by simp [hl], fun z hz => ?_⟩⟩
      rcases List.mem_or_eq_of_mem_set hz with hz | rfl
      · rcases List.mem_or_eq_of_mem_set hz with hz | rfl
        · exact hb z hz
        · omega
      · omega
    · have r1 : spec_l8Gather_s4 k rec_ sl d n (e, (i : Int)) = some (.inr e) := by
        simp only [spec_l8Gather_s4, decide_eq_true_eq]
        rw [n2, if_neg (by omega)]
      have r2 : impl_undo_unite_ofBounds_s2 d sl n (h : Int) (e, (i : Int)) = some (.inr e) := by
        simp only [impl_undo_unite_ofBounds_s2, decide_eq_true_eq]
        rw [if_neg (by omega)]
      exact ⟨by rw [r1, r2], .inr ⟨_, r2, hl, hb⟩⟩) (s := (z, 0)) ⟨rfl, hz, fun x hx => by rw [hu x hx]; omega⟩
  exact ⟨t, h1, h2, h3, h4⟩
def gb : Nat → Int
  | 0 => 67108864
  | m + 1 => 4 * gb m
theorem gb_le : ∀ m, m ≤ 4 → 1 ≤ gb m ∧ gb m ≤ 17179869184 := by
  intro m hm
  have : m = 0 ∨ m = 1 ∨ m = 2 ∨ m = 3 ∨ m = 4 := by omega
  rcases this with rfl | rfl | rfl | rfl | rfl <;> decide
theorem gather_same : ∀ (m k : Nat) (l : List Int), m ≤ 4 → m < k → l.length = 2 ^ m → (∀ x ∈ l, 0 ≤ x ∧ x ≤ 67108864) →
    ∃ r, spec_l8Gather k l = some r ∧ impl_undo_gather_ofBounds k Sundo.mk l = some r ∧ r.length = l.length ∧ ∀ x ∈ r, 0 ≤ x ∧ x ≤ gb m
  | 0, k, l, hm, hk, hl, hw => by
    obtain ⟨k, rfl⟩ : ∃ j, k = j + 1 := ⟨k - 1, by omega⟩
    match l, hl with
    | [x], hl =>
      refine ⟨[x], ?_, ?_, rfl, fun z hz => ?_⟩
      · simp [spec_l8Gather, spec_l8Gather_b, spec_l1Ints, okApp_8]
      · simp [impl_undo_gather_ofBounds, impl_undo_gather_ofBounds_b, getI]
      · exact hw z hz
  | m + 1, k, l, hm, hk, hl, hw => by
    obtain ⟨k, rfl⟩ : ∃ j, k = j + 1 := ⟨k - 1, by omega⟩
    obtain ⟨h, hh⟩ : ∃ h, h = 2 ^ m := ⟨_, rfl⟩
    have hl2 : l.length = 2 * h := by rw [hl, hh, Nat.pow_succ]; omega
    have hcases : h = 1 ∨ h = 2 ∨ h = 4 ∨ h = 8 := by
      have : m = 0 ∨ m = 1 ∨ m = 2 ∨ m = 3 := by omega
      rcases this with rfl | rfl | rfl | rfl <;> simp [hh]
    obtain ⟨a1, a2, a3, a4⟩ := halves_spec h l hl2
    obtain ⟨s, s1, s2, s3, s4⟩ := gather_same m k (evens l) (by omega) (by omega) (by rw [a1, hh]) (fun x hx => hw x (a3 x hx))
    obtain ⟨d, d1, d2, d3, d4⟩ := gather_same m k (odds l) (by omega) (by omega) (by rw [a2, hh]) (fun x hx => hw x (a4 x hx))
    obtain ⟨b1, b2⟩ := gb_le m (by omega)
    have hn : (l.length : Int) = 2 * (h : Int) := by omega
    -- the rotations
    obtain ⟨d', e1, e2, e3, e4⟩ : ∃ d', spec_l8Gather_u3 k (spec_l8Gather k) s d (l.length : Int) (decide ((l.length : Int) > 2)) = some d' ∧
        loopO (impl_undo_unite_ofBounds_s1 (List.replicate (l.length : Int).toNat 0) s (l.length : Int) (IntKind.i64.wrap ((l.length : Int).tdiv 4))) (d, 0) = some d' ∧ d'.length = h ∧ ∀ x ∈ d', 0 ≤ x ∧ x ≤ 5 * gb m := by
      rcases hcases with h1 | hr
      · refine ⟨d, ?_, ?_, by omega, fun x hx => by have := d4 x hx; omega⟩
        · unfold spec_l8Gather_u3
          rw [if_neg (by simp; omega)]
        · rw [loopO_eq]
          have e : IntKind.i64.wrap ((l.length : Int).tdiv 4) = 0 := by rw [hn, h1]; rfl
          simp only [impl_undo_unite_ofBounds_s1, decide_eq_true_eq]
          rw [e, if_neg (by omega)]
      · obtain ⟨q, hq⟩ : ∃ q, h = 2 * q := ⟨h / 2, by omega⟩
        obtain ⟨r, r1, r2, r3, r4⟩ := rotate_same (k := k) (rec_ := spec_l8Gather k) (o := List.replicate (l.length : Int).toNat 0) (sl := s) (d := d) (n := (l.length : Int)) (B := gb m) hn hq hr (by omega) ⟨b1, by omega⟩ d4
        refine ⟨r, ?_, ?_, r3, r4⟩
        · unfold spec_l8Gather_u3
          rw [if_pos (by simp; omega), r1]; rfl
        · have e : IntKind.i64.wrap ((l.length : Int).tdiv 4) = (q : Int) := by rw [Int.tdiv_eq_ediv_of_nonneg (by omega), w64 (by omega)]; omega
          rw [e]; exact r2
    obtain ⟨r, r1, r2, r3, r4⟩ := join_same (k := k) (rec_ := spec_l8Gather k) (sl := s) (d := d') (z := List.replicate (l.length : Int).toNat 0) (h := h) (n := (l.length : Int)) (B := gb m) hn (by omega) (by omega) e3 (by simp; omega) ⟨b1, by omega⟩ s4 e4 (fun x hx => List.eq_of_mem_replicate hx)
    refine ⟨r, ?_, ?_, by omega, fun x hx => by have := r4 x hx; simp only [gb]; omega⟩
    · rw [spec_l8Gather]
      unfold spec_l8Gather_b
      rw [if_neg (by simp; omega), split_spec hl2 (by omega)]
      simp only [Option.bind_some, s1, d1, e1]
      unfold spec_l1Zeros
      rw [if_pos (okMake_8 (by omega) (by omega))]
      simp only [Option.bind_some, r1]
    · rw [impl_undo_gather_ofBounds]
      unfold impl_undo_gather_ofBounds_b
      rw [if_neg (by simp; omega), split_impl hl2 (by omega)]
      simp only [Option.bind_some, s2, d2]
      unfold impl_undo_unite_ofBounds
      have w2 : IntKind.i64.wrap (2 * (s.length : Int)) = (l.length : Int) := by rw [w64 (by omega)]; omega
      rw [w2, if_pos (okMake_8 (by omega) (by omega)), e2]
      simp only [Option.bind_some]
      have w3 : (s.length : Int) = (h : Int) := by omega
      rw [w3, r2]
      simp only [Option.bind_some]
      rw [if_pos (by omega)]
theorem concat_eq {ls : List (List Int)} (hn : ls.length ≤ 1000) (hl : ∀ x ∈ ls, x.length ≤ 1000) : slices_Concat_int64 ls = some ls.flatten := by
  have hf : ∀ i, (ls.take i).flatten.length ≤ 1000 * i := by
    intro i
    induction i with
    | zero => simp
    | succ i ih =>
      rcases Nat.lt_or_ge i ls.length with h | h
      · rw [List.take_add_one, List.getElem?_eq_getElem h]
        have := hl ls[i] (List.getElem_mem h)
        simp only [Option.toList_some, List.flatten_append, List.length_append, List.flatten_cons, List.flatten_nil, List.append_nil]
        omega
      · rw [List.take_of_length_le (by omega)]
        rw [List.take_of_length_le h] at ih
        omega
  have hs : ∀ i (x : List Int), ls[i]? = some x → (ls.take (i + 1)).flatten = (ls.take i).flatten ++ x := fun i x hx => by
    rw [List.take_add_one, hx]; simp
  unfold slices_Concat_int64
  obtain ⟨t, h1, rfl⟩ := loop_rule (step := slices_Concat_int64_s5 ls (ls.length : Int)) (fun i s => s.2 = (i : Int) ∧ s.1 = ((ls.take i).flatten.length : Int)) (fun t => t = (ls.flatten.length : Int)) ls.length (by
    rintro i ⟨a, c⟩ hi ⟨hc, ha⟩
    simp only at hc ha
    subst hc ha
    simp only [slices_Concat_int64_s5, slices_Concat_int64_u4, slices_Concat_int64_u3, decide_eq_true_eq]
    rcases Nat.lt_or_ge i ls.length with h | h
    · left
      obtain ⟨x, hx, hm⟩ := get_lt h
      have hb := hf (i + 1)
      have hx' := hs i x hx
      have hlen : (ls.take (i + 1)).flatten.length = (ls.take i).flatten.length + x.length := by rw [hx']; simp
      rw [if_pos (by omega), getI_nat, hx]
      simp only [Option.bind_some]
      rw [w64 (n := ((ls.take i).flatten.length : Int) + x.length) (by omega), if_neg (by omega), w64 (n := (i : Int) + 1) (by omega)]
      exact ⟨h, _, rfl, by simp, by simp only []; omega⟩
    · right
      rw [if_neg (by omega)]
      refine ⟨_, rfl, ?_⟩
      rw [List.take_of_length_le h]) (s := (0, 0)) ⟨rfl, by simp⟩
  rw [h1]
  simp only [Option.bind_some]
  have htot := hf ls.length
  rw [List.take_of_length_le (Nat.le_refl _)] at htot
  unfold slices_Grow_int64
  rw [if_pos (show okGrow 8 (ls.flatten.length : Int) = true from decide_eq_true ⟨by omega, by omega, by omega⟩)]
  simp only [Option.bind_some]
  obtain ⟨t, h2, rfl⟩ := loop_rule (step := slices_Concat_int64_s6 ls (ls.length : Int)) (fun i s => s.2 = (i : Int) ∧ s.1 = (ls.take i).flatten) (fun t => t = ls.flatten) ls.length (by
    rintro i ⟨a, c⟩ hi ⟨hc, ha⟩
    simp only at hc ha
    subst hc ha
    simp only [slices_Concat_int64_s6, decide_eq_true_eq]
    rcases Nat.lt_or_ge i ls.length with h | h
    · left
      obtain ⟨x, hx, hm⟩ := get_lt h
      have hb := hf (i + 1)
      have hx' := hs i x hx
      rw [if_pos (by omega), getI_nat, hx]
      simp only [Option.bind_some]
      rw [if_pos (okApp_8 (by rw [← hx']; omega)), w64 (n := (i : Int) + 1) (by omega)]
      exact ⟨h, _, rfl, by simp, by simp only []; exact hx'.symm⟩
    · right
      rw [if_neg (by omega)]
      refine ⟨_, rfl, ?_⟩
      rw [List.take_of_length_le h]) (s := ([], 0)) ⟨rfl, by simp⟩
  rw [h2]
  rfl
def SeamOk (size : Int) (h : Nat) (last next a b : List Int) (i : Nat) : Prop := ∀ j, j < i → ∀ u v, last[h - 1 - j]? = some u → next[j]? = some v → ∃ x y, spec_l8Turn size (j : Int) u v = some (x, y) ∧ a[h - 1 - j]? = some x ∧ b[j]? = some y
theorem seam_uniq {size : Int} {h : Nat} {last next a b a' b' : List Int} (hl : last.length = h) (hx : next.length = h) (h1 : a.length = h) (h2 : b.length = h) (h3 : a'.length = h) (h4 : b'.length = h) (s : SeamOk size h last next a b h) (s' : SeamOk size h last next a' b' h) : a = a' ∧ b = b' := by
  have key : ∀ j, j < h → a[h - 1 - j]? = a'[h - 1 - j]? ∧ b[j]? = b'[j]? := fun j hj => by
    obtain ⟨u, hu, _⟩ := get_lt (l := last) (i := h - 1 - j) (by omega)
    obtain ⟨v, hv, _⟩ := get_lt (l := next) (i := j) (by omega)
    obtain ⟨x, y, e1, e2, e3⟩ := s j hj u v hu hv
    obtain ⟨x', y', f1, f2, f3⟩ := s' j hj u v hu hv
    rw [e1] at f1
    obtain ⟨rfl, rfl⟩ : x = x' ∧ y = y' := by simpa using f1
    exact ⟨e2.trans f2.symm, e3.trans f3.symm⟩
  refine ⟨list_ext (by omega) fun j hj => ?_, list_ext (by omega) fun j hj => (key j (by omega)).2⟩
  have := (key (h - 1 - j) (by omega)).1
  rwa [show h - 1 - (h - 1 - j) = j by omega] at this
theorem seam_same {size : Int} {h : Nat} {last next : List Int} {B : Int} (hs : size = 2 * (h : Int)) (hc : h = 2 ∨ h = 4 ∨ h = 8) (hl : last.length = h) (hx : next.length = h) (hB : B ≤ 8796093022208) (hw : ∀ x ∈ last, 0 ≤ x ∧ x ≤ B) (hv : ∀ x ∈ next, 0 ≤ x ∧ x ≤ B) :
    ∃ a b, spec_l8Seam size last next = some (a, b) ∧ impl_seam_impl_FrameBounds_2 last next size = some (a, b) ∧ a.length = h ∧ b.length = h := by
  have n2 : IntKind.i64.wrap (size.tdiv 2) = (h : Int) := by rw [Int.tdiv_eq_ediv_of_nonneg (by omega), w64 (by omega)]; omega
  have rot : ∀ i, i < h → Rot size (i : Int) := fun i hi => by rcases hc with rfl | rfl | rfl <;> (subst hs; unfold Rot; omega)
  obtain ⟨t, s1, s2, s3, s4⟩ := loop_rule (step := spec_l8Seam_s1 size last next (h : Int)) (fun i s => s.2.2 = (i : Int) ∧ s.1.length = h ∧ s.2.1.length = h ∧ SeamOk size h last next s.1 s.2.1 i)
      (fun t => t.1.length = h ∧ t.2.length = h ∧ SeamOk size h last next t.1 t.2 h) h (by
    rintro i ⟨a, b, c⟩ hi ⟨hcc, ha, hb, hok⟩
    simp only at hcc ha hb hok
    subst hcc
    rcases Nat.lt_or_ge i h with hq | hq
    · left
      obtain ⟨u, hu, mu⟩ := get_lt (l := last) (i := h - 1 - i) (by omega)
      obtain ⟨v, hv', mv⟩ := get_lt (l := next) (i := i) (by omega)
      obtain ⟨x, y, t1, t2, _⟩ := turn_same (rot i hq) (a := u) (b := v) (M := B) (hw u mu) (hv v mv) hB
      have e1 : IntKind.i64.wrap (IntKind.i64.wrap ((h : Int) - 1) - (i : Int)) = ((h - 1 - i : Nat) : Int) := by rw [w64 (n := (h : Int) - 1) (by omega), w64 (by omega)]; omega
      obtain ⟨p, hp, _⟩ := get_lt (l := a) (i := h - 1 - i) (by omega)
      obtain ⟨q, hq', _⟩ := get_lt (l := b) (i := i) (by omega)
      simp only [spec_l8Seam_s1, decide_eq_true_eq]
      rw [if_pos (by omega), e1]
      simp only [getI_nat, Int.toNat_natCast, hu, hv', hp, hq', Option.bind_some, t1]
      rw [w64 (n := (i : Int) + 1) (by omega)]
      refine ⟨hq, _, rfl, by simp, by simp [ha], by simp [hb], fun j hj u' v' g1 g2 => ?_⟩
      simp only
      rcases Nat.lt_or_ge j i with hji | hji
      · obtain ⟨x', y', f1, f2, f3⟩ := hok j hji u' v' g1 g2
        exact ⟨x', y', f1, by rw [List.getElem?_set_ne (by omega)]; exact f2, by rw [List.getElem?_set_ne (by omega)]; exact f3⟩
      · obtain rfl : j = i := by omega
        rw [hu] at g1; rw [hv'] at g2
        obtain rfl := Option.some.inj g1; obtain rfl := Option.some.inj g2
        exact ⟨x, y, t1, by rw [List.getElem?_set_self (by omega)], by rw [List.getElem?_set_self (by omega)]⟩
    · right
      obtain rfl : i = h := by omega
      simp only [spec_l8Seam_s1, decide_eq_true_eq]
      rw [if_neg (by omega)]
      exact ⟨_, rfl, ha, hb, hok⟩) (s := (List.replicate (h : Int).toNat 0, List.replicate (h : Int).toNat 0, 0)) ⟨rfl, by simp, by simp, fun j hj => by omega⟩
  obtain ⟨t', p1, p2, p3, p4⟩ := loop_rule (step := impl_seam_impl_FrameBounds_2_s1 size (h : Int)) (fun i s => s.2.2 = (i : Int) ∧ s.1.length = h ∧ s.2.1.length = h ∧ SeamOk size h last next s.1 s.2.1 i ∧ ∀ j, i ≤ j → j < h → s.1[h - 1 - j]? = last[h - 1 - j]? ∧ s.2.1[j]? = next[j]?)
      (fun t => t.1.length = h ∧ t.2.length = h ∧ SeamOk size h last next t.1 t.2 h) h (by
    rintro i ⟨a, b, c⟩ hi ⟨hcc, ha, hb, hok, hun⟩
    simp only at hcc ha hb hok hun
    subst hcc
    rcases Nat.lt_or_ge i h with hq | hq
    · left
      obtain ⟨u, hu, mu⟩ := get_lt (l := last) (i := h - 1 - i) (by omega)
      obtain ⟨v, hv', mv⟩ := get_lt (l := next) (i := i) (by omega)
      obtain ⟨x, y, t1, t2, _⟩ := turn_same (rot i hq) (a := u) (b := v) (M := B) (hw u mu) (hv v mv) hB
      have e1 : IntKind.i64.wrap (IntKind.i64.wrap ((a.length : Int) - 1) - (i : Int)) = ((h - 1 - i : Nat) : Int) := by rw [w64 (n := (a.length : Int) - 1) (by omega), w64 (by omega)]; omega
      obtain ⟨z1, z2⟩ := hun i (Nat.le_refl _) hq
      have hp : a[h - 1 - i]? = some u := z1.trans hu
      have hq' : b[i]? = some v := z2.trans hv'
      simp only [impl_seam_impl_FrameBounds_2_s1, impl_FrameBounds_2, decide_eq_true_eq]
      rw [if_pos (by omega), e1]
      simp only [getI_nat, Int.toNat_natCast, hp, hq', Option.bind_some, t2]
      rw [w64 (n := (i : Int) + 1) (by omega)]
      refine ⟨hq, _, rfl, by simp, by simp [ha], by simp [hb], fun j hj u' v' g1 g2 => ?_, fun j hj1 hj2 => ?_⟩
      · simp only
        rcases Nat.lt_or_ge j i with hji | hji
        · obtain ⟨x', y', f1, f2, f3⟩ := hok j hji u' v' g1 g2
          exact ⟨x', y', f1, by rw [List.getElem?_set_ne (by omega)]; exact f2, by rw [List.getElem?_set_ne (by omega)]; exact f3⟩
        · obtain rfl : j = i := by omega
          rw [hu] at g1; rw [hv'] at g2
          obtain rfl := Option.some.inj g1; obtain rfl := Option.some.inj g2
          exact ⟨x, y, t1, by rw [List.getElem?_set_self (by omega)], by rw [List.getElem?_set_self (by omega)]⟩
      · simp only
        rw [List.getElem?_set_ne (by omega), List.getElem?_set_ne (by omega)]
        exact hun j (by omega) hj2
    · right
      obtain rfl : i = h := by omega
      simp only [impl_seam_impl_FrameBounds_2_s1, decide_eq_true_eq]
      rw [if_neg (by omega)]
      exact ⟨_, rfl, ha, hb, hok⟩) (s := (last, next, 0)) ⟨rfl, hl, hx, fun j hj => by omega, fun j _ _ => ⟨rfl, rfl⟩⟩
  obtain ⟨e1, e2⟩ := seam_uniq hl hx s2 s3 p2 p3 s4 p4
  refine ⟨t.1, t.2, ?_, ?_, s2, s3⟩
  · unfold spec_l8Seam spec_l1Zeros
    rw [n2, if_pos (okMake_8 (by omega) (by omega))]
    simp only [Option.bind_some, s1]
  · unfold impl_seam_impl_FrameBounds_2 slices_Clone_int64
    rw [if_pos (okApp_8 (by omega)), if_pos (okApp_8 (by omega))]
    simp only [Option.bind_some]
    rw [hx, p1]
    simp only [Option.bind_some, e1, e2]
theorem boundsFault_eq {l : List Int} (hl : (l.length : Int) ≤ maxI) : impl_boundsFault l = spec_l8Ask l ∧ ∃ c, spec_l8Ask l = some c ∧ (c = 0 → ((l.length : Int) = 4 ∨ (l.length : Int) = 8 ∨ (l.length : Int) = 16) ∧ ∀ x ∈ l, 0 ≤ x ∧ x ≤ 67108864) := by
  have hcf : slices_ContainsFunc_int64_impl_boundsFault_1 l = some (!(l.all fun x => decide (0 ≤ x ∧ x ≤ 67108864))) := by
    unfold slices_ContainsFunc_int64_impl_boundsFault_1 slices_IndexFunc_int64_impl_boundsFault_1
    obtain ⟨r, h1, h2⟩ := find_loop (l := l) (fun x => impl_boundsFault_1 x) (step := slices_IndexFunc_int64_impl_boundsFault_1_s1 l (l.length : Int)) (fun i x hx => by
        have hi : i < l.length := (List.getElem?_eq_some_iff.1 hx).1
        simp only [slices_IndexFunc_int64_impl_boundsFault_1_s1, decide_eq_true_eq]
        rw [if_pos (by omega), getI_nat, hx]
        simp only [Option.bind_some]
        split <;> rfl) (by
        simp only [slices_IndexFunc_int64_impl_boundsFault_1_s1, decide_eq_true_eq]
        rw [if_neg (by omega)]) hl
    rw [h1]
    simp only [Option.bind_some, h2]
    rw [List.not_all_eq_any_not]
    congr 2
    funext x
    simp only [impl_boundsFault_1, impl_inRange_eq]
  have hsz : spec_SizeFault (l.length : Int) = 0 → ((l.length : Int) = 4 ∨ (l.length : Int) = 8 ∨ (l.length : Int) = 16) := by
    intro h
    by_cases h1 : (l.length : Int) = 4
    · exact .inl h1
    by_cases h2 : (l.length : Int) = 8
    · exact .inr (.inl h2)
    by_cases h3 : (l.length : Int) = 16
    · exact .inr (.inr h3)
    simp [spec_SizeFault, spec_SizeFault_u1, h1, h2, h3] at h
  unfold impl_boundsFault spec_l8Ask impl_isBlock
  rw [hcf, l1All_all hl]
  simp only [Option.bind_some]
  rw [impl_first_eq (by simp [maxI]), size_same]
  rcases size_cases (n := (l.length : Int)) with hz | hz
  · rw [hz]
    cases ha : (l.all fun x => decide (0 ≤ x ∧ x ≤ 67108864)) with
    | true =>
      refine ⟨by simp [firstL, impl_codeIf_eq], _, rfl, fun _ => ⟨hsz hz, fun x hx => ?_⟩⟩
      simpa using List.all_eq_true.1 ha x hx
    | false => exact ⟨by simp [firstL, impl_codeIf_eq], _, rfl, fun h => by simp at h⟩
  · rw [hz]
    exact ⟨by simp [firstL, impl_codeIf_eq], _, rfl, fun h => by simp at h⟩
theorem frameBounds_same {k : Nat} {size : Int} {a b c : List Int} (hk : 5 ≤ k) (ha : (a.length : Int) ≤ maxI) (hb : (b.length : Int) ≤ maxI) (hc : (c.length : Int) ≤ maxI) :
    ∃ r, spec_FrameBounds k size a b c = some r ∧ impl_FrameBounds k size a b c = some r ∧ r.List_.length ≤ 16 := by
  obtain ⟨a1, ca, a2, a3⟩ := boundsFault_eq ha
  obtain ⟨b1, cb, b2, b3⟩ := boundsFault_eq hb
  obtain ⟨c1, cc, c2, c3⟩ := boundsFault_eq hc
  rw [a2] at a1; rw [b2] at b1; rw [c2] at c1
  have hu1 : impl_FrameBounds_u1 k size a b c = some (firstL [spec_SizeFault size, if ((a.length : Int) != size || (b.length : Int) != size || (c.length : Int) != size) = true then 2 else 0, ca, cb, cc]) := by
    unfold impl_FrameBounds_u1 impl_FrameBounds_1
    rw [a1, b1, c1]
    simp only [Option.bind_some]
    have hf : ∀ a b c d e : Int, impl_first [a, b, c, d, e] = some (firstL [a, b, c, d, e]) := fun a b c d e => impl_first_eq (by simp [maxI])
    simp only [hf, size_same, Option.bind_some, impl_codeIf_eq]
    by_cases e1 : (a.length : Int) = size <;> by_cases e2 : (b.length : Int) = size <;> by_cases e3 : (c.length : Int) = size <;> simp [e1, e2, e3]
  have hu2 : spec_FrameBounds_u1 k size a b c = ((a.length : Int) != size || (b.length : Int) != size || (c.length : Int) != size) := by
    unfold spec_FrameBounds_u1
    by_cases e1 : (a.length : Int) = size <;> by_cases e2 : (b.length : Int) = size <;> simp [e1, e2]
  unfold spec_FrameBounds impl_FrameBounds
  rw [hu1, hu2]
  simp only [Option.bind_some]
  rcases (size_cases (n := size)).symm with hz | hz
  · rw [hz]; exact ⟨_, rfl, rfl, by simp⟩
  rw [hz]
  cases hm : ((a.length : Int) != size || (b.length : Int) != size || (c.length : Int) != size) with
  | true => exact ⟨_, rfl, rfl, by simp⟩
  | false =>
    simp only [Bool.or_eq_false_iff, bne_eq_false_iff_eq] at hm
    obtain ⟨⟨l1, l2⟩, l3⟩ := hm
    simp only [firstL, ne_eq, not_true, if_false, Bool.false_eq_true, bne_self_eq_false, a2, Option.bind_some]
    rcases Decidable.em (¬ ca = 0) with ea | ea
    · rw [if_pos ea]; exact ⟨_, by simp only [bne_iff_ne, ne_eq, ea, not_false_eq_true, if_true]; rfl, by simp [ea], by simp⟩
    obtain rfl : ca = 0 := Decidable.not_not.1 ea
    simp only [ne_eq, not_true, if_false, bne_self_eq_false, Bool.false_eq_true]
    unfold spec_FrameBounds_u2
    simp only [b2, Option.bind_some]
    rcases Decidable.em (¬ cb = 0) with eb | eb
    · rw [if_pos eb]; exact ⟨_, by simp only [bne_iff_ne, ne_eq, eb, not_false_eq_true, if_true]; rfl, by simp [eb], by simp⟩
    obtain rfl : cb = 0 := Decidable.not_not.1 eb
    simp only [ne_eq, not_true, if_false, bne_self_eq_false, Bool.false_eq_true, c2, Option.bind_some]
    rcases Decidable.em (¬ cc = 0) with ec | ec
    · rw [if_pos ec]; exact ⟨_, by simp only [bne_iff_ne, ne_eq, ec, not_false_eq_true, if_true]; rfl, by simp [ec], by simp⟩
    obtain rfl : cc = 0 := Decidable.not_not.1 ec
    simp only [ne_eq, not_true, if_false, bne_self_eq_false, Bool.false_eq_true]
    obtain ⟨sz, wa⟩ := a3 rfl
    obtain ⟨_, wb⟩ := b3 rfl
    obtain ⟨_, wc⟩ := c3 rfl
    obtain ⟨h, m, hh, hm4, hpow, hcs⟩ : ∃ h m : Nat, size = 2 * (h : Int) ∧ m ≤ 4 ∧ 2 * h = 2 ^ m ∧ (h = 2 ∨ h = 4 ∨ h = 8) := by
      rcases sz with sz | sz | sz
      · exact ⟨2, 2, by omega, by omega, by decide, by omega⟩
      · exact ⟨4, 3, by omega, by omega, by decide, by omega⟩
      · exact ⟨8, 4, by omega, by omega, by decide, by omega⟩
    obtain ⟨x, x1, x2, x3, x4⟩ := gather_same m k a hm4 (by omega) (by omega) wa
    obtain ⟨y, y1, y2, y3, y4⟩ := gather_same m k b hm4 (by omega) (by omega) wb
    obtain ⟨z, z1, z2, z3, z4⟩ := gather_same m k c hm4 (by omega) (by omega) wc
    obtain ⟨g1, g2⟩ := gb_le m hm4
    have n2 : IntKind.i64.wrap (size.tdiv 2) = (h : Int) := by rw [Int.tdiv_eq_ediv_of_nonneg (by omega), w64 (by omega)]; omega
    have cut : ∀ l : List Int, l.length = 2 * h → cutI l.length (h : Int) (l.length : Int) = some (h, l.length) := fun l hl => by
      unfold cutI
      rw [if_pos (by omega), if_pos (by omega)]; simp
    have up : ∀ l : List Int, l.length = 2 * h → upI l.length (h : Int) = some h := fun l hl => by
      unfold upI
      rw [if_pos (by omega)]; simp
    have lx : x.length = 2 * h := by omega
    have ly : y.length = 2 * h := by omega
    have lz : z.length = 2 * h := by omega
    have dt : ∀ l : List Int, l.length = 2 * h → (l.drop h).take (l.length - h) = l.drop h := fun l hl => List.take_of_length_le (by simp)
    obtain ⟨u, v, u1, u2, u3, u4⟩ := seam_same (size := size) (h := h) (last := x.drop h) (next := y.take h) (B := gb m) hh hcs (by simp; omega) (by simp; omega) (by omega) (fun q hq => x4 q (List.mem_of_mem_drop hq)) (fun q hq => y4 q (List.mem_of_mem_take hq))
    obtain ⟨u', v', u1', u2', u3', u4'⟩ := seam_same (size := size) (h := h) (last := y.drop h) (next := z.take h) (B := gb m) hh hcs (by simp; omega) (by simp; omega) (by omega) (fun q hq => y4 q (List.mem_of_mem_drop hq)) (fun q hq => z4 q (List.mem_of_mem_take hq))
    refine ⟨⟨0, v ++ u'⟩, ?_, ?_, by simp; omega⟩
    · unfold spec_l8Frame
      rw [x1, y1, z1]
      simp only [Option.bind_some, n2, cut x lx, cut y ly, up y ly, up z lz, dt x lx, dt y ly, u1, u1']
      rw [if_pos (okApp_8 (by simp; omega))]; rfl
    · rw [x2, y2, z2]
      simp only [Option.bind_some, n2, cut x lx, cut y ly, up y ly, up z lz, dt x lx, dt y ly, u2, u2']
      rw [concat_eq (by simp) (by simp; omega)]
      simp
theorem both_if {α : Type} {P : α → Prop} {c : Bool} {a b : α} (ha : P a) (hb : P b) : ∃ r, (if c = true then some a else some b) = some r ∧ (if c = true then some a else some b) = some r ∧ P r := by
  cases c
  · exact ⟨_, rfl, rfl, hb⟩
  · exact ⟨_, rfl, rfl, ha⟩
theorem env_eq {k : Nat} {size at_ : Int} {outs : List SOutcome} (hk : 5 ≤ k) (hl : (outs.length : Int) ≤ 1048576) (hw : ∀ x ∈ outs, OutOk x) (hat : WfI .i64 at_) :
    ∃ r, spec_EnvelopeAt k size outs at_ = some r ∧ impl_EnvelopeAt k size outs at_ = some r ∧ r.List_.length ≤ 16 := by
  rw [wfI64] at hat
  have hu : impl_EnvelopeAt_u1 k size outs at_ = some (if (outs.length : Int) > 40 then 2 else if spec_SizeFault size ≠ 0 then spec_SizeFault size else if 2 ≤ at_ ∧ at_ ≤ (outs.length : Int) - 1 then 0 else 3) := by
    unfold impl_EnvelopeAt_u1 impl_isIndex
    have hf : ∀ a b c : Int, impl_first [a, b, c] = some (firstL [a, b, c]) := fun a b c => impl_first_eq (by simp [maxI])
    simp only [hf, size_same, Option.bind_some, impl_codeIf_eq, impl_inRange_eq, decide_eq_true_eq, firstL]
    rw [w64 (n := (outs.length : Int) - 1) (by omega)]
    by_cases h1 : (outs.length : Int) > 40
    · simp [h1]
    · by_cases h2 : spec_SizeFault size = 0
      · simp only [h1, h2, if_false, ne_eq, not_true, if_true]
        by_cases h3 : 0 ≤ at_ ∧ at_ ≤ (outs.length : Int) - 1
        · rw [if_pos h3]
          by_cases h4 : at_ < 2
          · rw [if_pos h4, if_neg (show ¬ (2 ≤ at_ ∧ at_ ≤ (outs.length : Int) - 1) by omega)]; rfl
          · rw [if_neg h4, if_pos (show 2 ≤ at_ ∧ at_ ≤ (outs.length : Int) - 1 by omega)]; rfl
        · rw [if_neg h3, if_neg (show ¬ (2 ≤ at_ ∧ at_ ≤ (outs.length : Int) - 1) by omega)]; rfl
      · simp only [h1, h2, if_false, ne_eq, not_true, not_false_eq_true, if_true]
        split <;> rfl
  unfold spec_EnvelopeAt impl_EnvelopeAt
  rw [hu]
  simp only [Option.bind_some, decide_eq_true_eq]
  by_cases h1 : (outs.length : Int) > 40
  · rw [if_pos h1]; simp only [h1, if_true]; exact ⟨_, rfl, rfl, by simp⟩
  rw [if_neg h1]; simp only [h1, if_false]
  rcases (size_cases (n := size)).symm with h2 | h2
  · simp only [h2]; exact ⟨_, rfl, rfl, by simp⟩
  simp only [h2, bne_self_eq_false, Bool.false_eq_true, if_false, ne_eq, not_true, spec_l1In_eq, decide_eq_true_eq]
  rw [w64 (n := (outs.length : Int) - 1) (by omega)]
  rcases Decidable.em (¬ (2 ≤ at_ ∧ at_ ≤ (outs.length : Int) - 1)) with h3 | h3
  · rw [if_neg h3, if_neg h3]; exact ⟨_, rfl, rfl, by simp⟩
  have h3 := Decidable.not_not.1 h3
  rw [if_pos h3, if_pos h3]
  obtain ⟨x, hx, mx⟩ := get_lt (l := outs) (i := (at_ - 2).toNat) (by omega)
  obtain ⟨y, hy, my⟩ := get_lt (l := outs) (i := (at_ - 1).toNat) (by omega)
  obtain ⟨z, hz, mz⟩ := get_lt (l := outs) (i := at_.toNat) (by omega)
  have gx : getI outs (IntKind.i64.wrap (at_ - 2)) = some x := by rw [w64 (by omega)]; unfold getI; rw [if_pos (by omega)]; exact hx
  have gy : getI outs (IntKind.i64.wrap (at_ - 1)) = some y := by rw [w64 (by omega)]; unfold getI; rw [if_pos (by omega)]; exact hy
  have gz : getI outs at_ = some z := by unfold getI; rw [if_pos (by omega)]; exact hz
  have ox := hw x mx
  have oy := hw y my
  have oz := hw z mz
  obtain ⟨r, f1, f2, f3⟩ := frameBounds_same (k := k) (size := size) (a := x.Bounds) (b := y.Bounds) (c := z.Bounds) hk (by have := ox.bounds; unfold maxI; omega) (by have := oy.bounds; unfold maxI; omega) (by have := oz.bounds; unfold maxI; omega)
  unfold impl_EnvelopeAt_u2
  simp only [gx, gy, gz, Option.bind_some, bne_self_eq_false, Bool.false_eq_true, if_false, f1, f2]
  unfold spec_EnvelopeAt_u1 impl_EnvelopeAt_u3 spec_l21Told impl_isDecoded spec_l21Told_u1 impl_isDecoded_u1 spec_l14Number impl_isNumber
  simp only [impl_inRange_eq, spec_l1In_eq]
  exact both_if (P := fun r : SIntsResult => r.List_.length ≤ 16) (by simp) f3
--REST0
theorem pure (p0 : Int) (p : List SOutcome) (p2 : Int) (h0 : WfI .i64 p0) (h : (p.length : Int) ≤ maxI ∧ ∀ x ∈ p, x.Wf) (h2 : WfI .i64 p2) : laws_FnExactEnvelopeAt 64 p0 p p2 = some true := by
  obtain ⟨hl, hw⟩ := h
  obtain ⟨r, s1, s2⟩ := szOS_spec (n := 1048576) (by omega) hl hw
  unfold laws_FnExactEnvelopeAt laws_FnExactEnvelopeAt_u1
  simp only [s1, Option.bind_some, decide_eq_true_eq]
  rcases s2 with s2 | ⟨_, _, s3, s4⟩
  · rw [if_pos s2]
  rw [if_neg (by omega)]
  have hto := toOutcomeS_eq s3 s4
  obtain ⟨g, g1, g2, g3⟩ := env_eq (k := 64) (size := p0) (at_ := p2) (outs := p) (by omega) s3 s4 h2
  have gm : (g.List_.length : Int) ≤ maxI := by unfold maxI; omega
  have heq : laws_eqIntsResult ⟨g.Code, g.List_⟩ ⟨g.Code, g.List_⟩ = some true := by
    unfold laws_eqIntsResult
    simp [laws_eqInt64S_self gm]
  obtain ⟨k, p', k1, k2, k3⟩ := markOutcomeS_eq s3 s4
  obtain ⟨l', m1, m2, m3⟩ := laws_markInt64S_eq (l := g.List_) (k := 1) (by omega) (by unfold maxI; omega)
  have hm : laws_markIntsResult_o ⟨g.Code, g.List_⟩ 1 = some (1 + (g.List_.length : Int), SIntsResult.mk g.Code l') := by
    unfold laws_markIntsResult_o
    simp [m1, m2]
  have hh : laws_heldIntsResult ⟨g.Code, l'⟩ 1 = some (1 + (g.List_.length : Int)) := by
    unfold laws_heldIntsResult
    simp only [m3, Option.bind_some, decide_eq_true_eq]
    rw [if_neg (by omega)]
  have hk : ¬ (k < 0) := by omega
  have hn : ¬ ((1 : Int) + g.List_.length < 0) := by omega
  unfold laws_FnExactEnvelopeAt_u2 laws_FnExactEnvelopeAt_u3 laws_FnExactEnvelopeAt_u4 laws_FnExactEnvelopeAt_u5 laws_FnExactEnvelopeAt_u6 laws_FnExactEnvelopeAt_u15 laws_FnExactEnvelopeAt_u7 laws_FnExactEnvelopeAt_u8 laws_FnExactEnvelopeAt_u9 laws_FnExactEnvelopeAt_u10 laws_FnExactEnvelopeAt_u14 laws_FnExactEnvelopeAt_u11 laws_FnExactEnvelopeAt_u12 laws_FnExactEnvelopeAt_u13
  simp only [hto, g1, g2, heq, eqOutcomeS_self s3 s4, k1, k3, hm, hh, hk, hn, m2, Option.bind_some, Bool.not_true, Bool.false_eq_true, if_false, if_true, decide_eq_true_eq, bne_self_eq_false]
end FnExactEnvelopeAt
end Go.Proofs.Ytpioljlgmhehhaa.Wm
