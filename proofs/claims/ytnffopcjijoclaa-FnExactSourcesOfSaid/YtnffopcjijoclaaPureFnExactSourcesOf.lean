/- What FnExactSourcesOf comes to on plain values: true. -/
import Derived.Test.YtnffopcjijoclaaFnBFnExactSourcesOf
set_option linter.unusedSimpArgs false
set_option linter.unusedVariables false
set_option maxRecDepth 100000
namespace Go.Proofs.Ytnffopcjijoclaa.Wm
open Go
namespace FnExactSourcesOf
theorem laws_toInt64S_eq {l : List Int} (hl : (l.length : Int) ≤ 35184372088832) : laws_toInt64S l = some l := by
  unfold laws_toInt64S
  rw [if_pos (okMake_8 (by omega) hl), Int.toNat_natCast]
  obtain ⟨t, h1, rfl⟩ := loop_rule (step := laws_toInt64S_s1 l) (fun i s => s.2 = i ∧ s.1.length = l.length ∧ ∀ j, j < i → s.1[j]? = l[j]?) (fun t => t = l) l.length (by
    rintro i ⟨a, k⟩ hi ⟨hk, ha, hj⟩
    simp only at hk ha hj
    subst hk
    simp only [laws_toInt64S_s1, decide_eq_true_eq]
    rcases Nat.lt_or_ge i l.length with h | h
    · left
      obtain ⟨x, hx, _⟩ := get_lt h
      obtain ⟨y, hy, _⟩ := get_lt (l := a) (i := i) (by omega)
      rw [if_pos (by omega), getI_nat, hx, getI_nat, hy, Int.toNat_natCast, hy, w64 (by omega)]
      refine ⟨h, _, rfl, by simp, by simp [ha], fun j hj' => ?_⟩
      simp only [List.getElem?_set]
      split
      · rename_i e; subst e; rw [if_pos (by omega), hx]
      · exact hj j (by omega)
    · right
      rw [if_neg (by omega)]
      exact ⟨a, rfl, list_ext ha fun j hj' => hj j (by omega)⟩) (s := (List.replicate l.length 0, 0)) ⟨rfl, by simp, fun j hj => by omega⟩
  rw [h1]; rfl
theorem laws_eqInt64S_self {l : List Int} (hl : (l.length : Int) ≤ maxI) : laws_eqInt64S l l = some true := by
  unfold maxI at hl
  unfold laws_eqInt64S
  rw [if_neg (by simp)]
  obtain ⟨t, h1, rfl⟩ := loop_rule (step := laws_eqInt64S_s1 l l) (fun i s => s = (i : Int)) (fun t => t = .inl ()) l.length (by
    rintro i s hi rfl
    simp only [laws_eqInt64S_s1, decide_eq_true_eq]
    rcases Nat.lt_or_ge i l.length with h | h
    · left
      obtain ⟨x, hx, _⟩ := get_lt h
      rw [if_pos (by omega), getI_nat, hx, w64 (by omega)]
      simp only [Option.bind_some, bne_self_eq_false, Bool.false_eq_true, if_false]
      exact ⟨h, _, rfl, by simp⟩
    · right
      rw [if_neg (by omega)]
      exact ⟨_, rfl, rfl⟩) (s := 0) rfl
  rw [h1]; rfl
theorem laws_heldInt64S_eq {l : List Int} {k : Int} (hk : 0 ≤ k) (hs : k + l.length ≤ maxI) (h : ∀ (j : Nat), j < l.length → l[j]? = some (k + j)) : laws_heldInt64S l k = some (k + l.length) := by
  unfold maxI at hs
  unfold laws_heldInt64S
  obtain ⟨t, h1, rfl⟩ := loop_rule (step := laws_heldInt64S_s1 l) (fun i s => s = (k + (i : Int), (i : Int))) (fun t => t = .inl (k + (l.length : Int))) l.length (by
    rintro i s hi rfl
    simp only [laws_heldInt64S_s1, decide_eq_true_eq]
    rcases Nat.lt_or_ge i l.length with hh | hh
    · left
      rw [if_pos (by omega), getI_nat, h i hh, w64 (by omega), w64 (by omega)]
      simp only [Option.bind_some, bne_self_eq_false, Bool.false_eq_true, if_false]
      exact ⟨hh, _, rfl, by simp only [Prod.mk.injEq]; omega⟩
    · right
      obtain rfl : i = l.length := by omega
      rw [if_neg (by omega)]
      exact ⟨_, rfl, rfl⟩) (s := (k, 0)) (by simp)
  rw [h1]; rfl
theorem laws_markInt64S_eq {l : List Int} {k : Int} (hk : 0 ≤ k) (hs : k + l.length ≤ maxI) : ∃ l', laws_markInt64S l k = some (k + l.length, l') ∧ l'.length = l.length ∧ laws_heldInt64S l' k = some (k + l.length) := by
  have hs' := hs
  unfold maxI at hs
  unfold laws_markInt64S
  obtain ⟨t, h1, h2, h3, h4⟩ := loop_rule (step := laws_markInt64S_s1) (fun i s => s.2.1 = k + (i : Int) ∧ s.2.2 = (i : Int) ∧ s.1.length = l.length ∧ ∀ (j : Nat), j < i → s.1[j]? = some (k + j)) (fun t => t.2 = k + (l.length : Int) ∧ t.1.length = l.length ∧ ∀ (j : Nat), j < l.length → t.1[j]? = some (k + j)) l.length (by
    rintro i ⟨a, m, n⟩ hi ⟨hm, hn, ha, hj⟩
    simp only at hm hn ha hj
    subst hm; subst hn
    simp only [laws_markInt64S_s1, decide_eq_true_eq]
    rcases Nat.lt_or_ge i l.length with hh | hh
    · left
      obtain ⟨y, hy, _⟩ := get_lt (l := a) (i := i) (by omega)
      rw [if_pos (by omega), getI_nat, hy, Int.toNat_natCast, hy, w64 (by omega), w64 (by omega)]
      refine ⟨hh, _, rfl, by simp; omega, by simp, by simp [ha], fun j hj' => ?_⟩
      simp only [List.getElem?_set]
      split
      · rename_i e; subst e; rw [if_pos (by omega)]
      · exact hj j (by omega)
    · right
      obtain rfl : i = l.length := by omega
      rw [if_neg (by omega)]
      exact ⟨_, rfl, rfl, ha, hj⟩) (s := (l, k, 0)) ⟨by simp, rfl, rfl, fun j hj => by omega⟩
  rw [h1]
  obtain ⟨a, b⟩ := t
  simp only at h2 h3 h4
  subst h2
  refine ⟨a, rfl, h3, ?_⟩
  have := laws_heldInt64S_eq (l := a) hk (by rw [h3]; exact hs') (by rw [h3]; exact h4)
  rw [h3] at this
  exact this
theorem toInt64SS_eq {l : List (List Int)} (hl : (l.length : Int) ≤ 1048576) (hw : ∀ x ∈ l, (x.length : Int) ≤ 1048576) : laws_toInt64SS l = some l := by
  unfold laws_toInt64SS
  rw [if_pos (okMake_of (by omega) (by simp; omega) (by omega)), Int.toNat_natCast, copy_loop (fun a i x y hx hy ha => ?_) (fun a => ?_) (by unfold maxI; omega)]
  · rfl
  · have hi : i < l.length := (List.getElem?_eq_some_iff.1 hx).1
    simp only [laws_toInt64SS_s1, decide_eq_true_eq]
    rw [if_pos (by omega), getI_nat, hx]
    have hm := hw x (List.mem_of_getElem? hx)
    simp only [Option.bind_some, laws_toInt64S_eq (l := x) (by omega)]
    rw [getI_nat, hy, Int.toNat_natCast, hy]; rfl
  · simp only [laws_toInt64SS_s1, decide_eq_true_eq]; rw [if_neg (by omega)]
structure OutOk (s : SOutcome) : Prop where
  lows : (s.Sent.Lows.length : Int) ≤ 1048576
  gains : (s.Sent.Gains.length : Int) ≤ 1048576
  pulses : (s.Sent.Pulses.length : Int) ≤ 1048576
  pulse : ∀ x ∈ s.Sent.Pulses, (x.length : Int) ≤ 1048576
  codes : (s.Codes.length : Int) ≤ 1048576
  frame : (s.Frame.length : Int) ≤ 1048576
  coefs : (s.Coefs.length : Int) ≤ 1048576
  bounds : (s.Bounds.length : Int) ≤ 1048576
theorem toFrame_eq {s : SFrame} (h1 : (s.Lows.length : Int) ≤ 1048576) (h2 : (s.Gains.length : Int) ≤ 1048576) (h3 : (s.Pulses.length : Int) ≤ 1048576) (h4 : ∀ x ∈ s.Pulses, (x.length : Int) ≤ 1048576) : laws_toFrame s = some s := by
  unfold laws_toFrame
  rw [laws_toInt64S_eq (by omega), laws_toInt64S_eq (by omega), toInt64SS_eq h3 h4]; rfl
theorem toOutcome_eq {s : SOutcome} (h : OutOk s) : laws_toOutcome s = some s := by
  obtain ⟨h1, h2, h3, h4, h5, h6, h7, h8⟩ := h
  unfold laws_toOutcome
  rw [toFrame_eq h1 h2 h3 h4, laws_toInt64S_eq (by omega), laws_toInt64S_eq (by omega), laws_toInt64S_eq (by omega), laws_toInt64S_eq (by omega)]; rfl
theorem toOutcomeS_eq {l : List SOutcome} (hl : (l.length : Int) ≤ 1048576) (hw : ∀ x ∈ l, OutOk x) : laws_toOutcomeS l = some l := by
  unfold laws_toOutcomeS
  rw [if_pos (okMake_of (by omega) (by simp; omega) (by omega)), Int.toNat_natCast, copy_loop (fun a i x y hx hy ha => ?_) (fun a => ?_) (by unfold maxI; omega)]
  · rfl
  · have hi : i < l.length := (List.getElem?_eq_some_iff.1 hx).1
    simp only [laws_toOutcomeS_s1, decide_eq_true_eq]
    rw [if_pos (by omega), getI_nat, hx]
    simp only [Option.bind_some, toOutcome_eq (hw x (List.mem_of_getElem? hx))]
    rw [getI_nat, hy, Int.toNat_natCast, hy]; rfl
  · simp only [laws_toOutcomeS_s1, decide_eq_true_eq]; rw [if_neg (by omega)]
theorem szI_spec {l : List Int} {n : Int} (hn : 0 ≤ n ∧ n ≤ 1048576) (hl : (l.length : Int) ≤ maxI) : laws_szInt64S l n < 0 ∨ (0 ≤ laws_szInt64S l n ∧ laws_szInt64S l n ≤ n ∧ (l.length : Int) ≤ n) := by
  unfold maxI at hl
  simp only [laws_szInt64S, decide_eq_true_eq]
  rw [w64 (by omega)]
  split <;> omega
theorem szII_spec {l : List (List Int)} {n : Int} (hn : 0 ≤ n ∧ n ≤ 1048576) (hl : (l.length : Int) ≤ maxI) (hw : ∀ x ∈ l, (x.length : Int) ≤ maxI) :
    ∃ r, laws_szInt64SS l n = some r ∧ (r < 0 ∨ (0 ≤ r ∧ r ≤ n ∧ (l.length : Int) ≤ n ∧ ∀ x ∈ l, (x.length : Int) ≤ n)) := by
  unfold maxI at hl
  unfold laws_szInt64SS
  rw [w64 (by omega)]
  by_cases h0 : n - l.length < 0
  · rw [if_pos (decide_eq_true h0)]; exact ⟨_, rfl, .inl (by omega)⟩
  · rw [if_neg (by simpa using h0)]
    obtain ⟨t, q1, q2⟩ := loop_rule (step := laws_szInt64SS_s1 l) (fun i s => s.2 = (i : Int) ∧ 0 ≤ s.1 ∧ s.1 ≤ n ∧ ∀ j x, j < i → l[j]? = some x → (x.length : Int) ≤ n)
        (fun t => (∃ r, t = .inl r ∧ 0 ≤ r ∧ r ≤ n ∧ ∀ x ∈ l, (x.length : Int) ≤ n) ∨ t = .inr ()) l.length (by
      rintro i ⟨a, k⟩ hi ⟨hk, h1, h2, hj⟩
      simp only at hk h1 h2 hj
      subst hk
      simp only [laws_szInt64SS_s1, decide_eq_true_eq]
      rcases Nat.lt_or_ge i l.length with h | h
      · obtain ⟨x, hx, hm⟩ := get_lt h
        rw [if_pos (by omega), getI_nat, hx, w64 (n := (i : Int) + 1) (by omega)]
        simp only [Option.bind_some]
        by_cases hc : laws_szInt64S x a < 0
        · right; rw [if_pos hc]; exact ⟨_, rfl, .inr rfl⟩
        · left
          rw [if_neg hc]
          rcases szI_spec (l := x) (n := a) (by omega) (hw x hm) with e | ⟨e1, e2, e3⟩
          · omega
          · refine ⟨h, _, rfl, by simp, e1, by simp only []; omega, fun j y hj' hy => ?_⟩
            rcases Nat.lt_or_ge j i with hji | hji
            · exact hj j y hji hy
            · obtain rfl : j = i := by omega
              rw [hx] at hy; obtain rfl := Option.some.inj hy; omega
      · right
        rw [if_neg (by omega)]
        refine ⟨_, rfl, .inl ⟨a, rfl, h1, h2, fun x hx => ?_⟩⟩
        obtain ⟨j, hj'⟩ := List.getElem?_of_mem hx
        exact hj j x (by have := (List.getElem?_eq_some_iff.1 hj').1; omega) hj') (s := (n - l.length, 0)) ⟨rfl, by simp only []; omega, by simp only []; omega, fun j x hj => by omega⟩
    rw [q1]
    rcases q2 with ⟨r, rfl, h1, h2, h3⟩ | rfl
    · exact ⟨r, rfl, .inr ⟨h1, h2, by omega, h3⟩⟩
    · exact ⟨-1, rfl, .inl (by omega)⟩
theorem szO_spec {s : SOutcome} {n : Int} (hn : 0 ≤ n ∧ n ≤ 1048576) (w : s.Wf) : ∃ r, laws_szOutcome s n = some r ∧ (r < 0 ∨ (0 ≤ r ∧ r ≤ n ∧ OutOk s)) := by
  obtain ⟨_, ⟨_, _, _, _, _, ⟨w1, _⟩, ⟨w2, _⟩, w3, w4⟩, ⟨w5, _⟩, _, _, _, ⟨w6, _⟩, ⟨w7, _⟩, ⟨w8, _⟩⟩ := w
  unfold laws_szOutcome laws_szFrame laws_szOutcome_u1
  simp only [decide_eq_true_eq]
  rcases szI_spec (l := s.Sent.Lows) hn w1 with e | ⟨a1, a2, a3⟩
  · rw [if_pos e]; exact ⟨_, rfl, .inl (by omega)⟩
  rw [if_neg (by omega)]
  rcases szI_spec (l := s.Sent.Gains) (n := laws_szInt64S s.Sent.Lows n) (by omega) w2 with e | ⟨b1, b2, b3⟩
  · rw [if_pos e]; exact ⟨_, rfl, .inl (by omega)⟩
  rw [if_neg (by omega)]
  obtain ⟨r, c1, c2⟩ := szII_spec (l := s.Sent.Pulses) (n := laws_szInt64S s.Sent.Gains (laws_szInt64S s.Sent.Lows n)) (by omega) w3 (fun x hx => (w4 x hx).1)
  rw [c1]
  simp only [Option.bind_some]
  rcases c2 with c2 | ⟨c2, c3, c4, c5⟩
  · rw [if_pos c2]; exact ⟨_, rfl, .inl (by omega)⟩
  rw [if_neg (by omega)]
  simp only [Option.bind_some]
  rw [if_neg (by omega)]
  rcases szI_spec (l := s.Codes) (n := r) (by omega) w5 with e | ⟨d1, d2, d3⟩
  · rw [if_pos e]; exact ⟨_, rfl, .inl (by omega)⟩
  rw [if_neg (by omega)]
  rcases szI_spec (l := s.Frame) (n := laws_szInt64S s.Codes r) (by omega) w6 with e | ⟨f1, f2, f3⟩
  · rw [if_pos e]; exact ⟨_, rfl, .inl (by omega)⟩
  rw [if_neg (by omega)]
  rcases szI_spec (l := s.Coefs) (n := laws_szInt64S s.Frame (laws_szInt64S s.Codes r)) (by omega) w7 with e | ⟨g1, g2, g3⟩
  · rw [if_pos e]; exact ⟨_, rfl, .inl (by omega)⟩
  rw [if_neg (by omega)]
  rcases szI_spec (l := s.Bounds) (n := laws_szInt64S s.Coefs (laws_szInt64S s.Frame (laws_szInt64S s.Codes r))) (by omega) w8 with e | ⟨k1, k2, k3⟩
  · rw [if_pos e]; exact ⟨_, rfl, .inl (by omega)⟩
  rw [if_neg (by omega)]
  exact ⟨_, rfl, .inr ⟨k1, by omega, ⟨by omega, by omega, by omega, fun x hx => by have := c5 x hx; omega, by omega, by omega, by omega, by omega⟩⟩⟩
theorem szOS_spec {l : List SOutcome} {n : Int} (hn : 0 ≤ n ∧ n ≤ 1048576) (hl : (l.length : Int) ≤ maxI) (hw : ∀ x ∈ l, x.Wf) :
    ∃ r, laws_szOutcomeS l n = some r ∧ (r < 0 ∨ (0 ≤ r ∧ r ≤ n ∧ (l.length : Int) ≤ n ∧ ∀ x ∈ l, OutOk x)) := by
  unfold maxI at hl
  unfold laws_szOutcomeS
  rw [w64 (by omega)]
  by_cases h0 : n - l.length < 0
  · rw [if_pos (decide_eq_true h0)]; exact ⟨_, rfl, .inl (by omega)⟩
  · rw [if_neg (by simpa using h0)]
    obtain ⟨t, q1, q2⟩ := loop_rule (step := laws_szOutcomeS_s1 l) (fun i s => s.2 = (i : Int) ∧ 0 ≤ s.1 ∧ s.1 ≤ n ∧ ∀ j x, j < i → l[j]? = some x → OutOk x)
        (fun t => (∃ r, t = .inl r ∧ 0 ≤ r ∧ r ≤ n ∧ ∀ x ∈ l, OutOk x) ∨ t = .inr ()) l.length (by
      rintro i ⟨a, k⟩ hi ⟨hk, h1, h2, hj⟩
      simp only at hk h1 h2 hj
      subst hk
      simp only [laws_szOutcomeS_s1, decide_eq_true_eq]
      rcases Nat.lt_or_ge i l.length with h | h
      · obtain ⟨x, hx, hm⟩ := get_lt h
        rw [if_pos (by omega), getI_nat, hx, w64 (n := (i : Int) + 1) (by omega)]
        obtain ⟨r, e1, e2⟩ := szO_spec (s := x) (n := a) (by omega) (hw x hm)
        simp only [Option.bind_some, e1]
        by_cases hc : r < 0
        · right; rw [if_pos hc]; exact ⟨_, rfl, .inr rfl⟩
        · left
          rw [if_neg hc]
          rcases e2 with e | ⟨e1, e2, e3⟩
          · omega
          · refine ⟨h, _, rfl, by simp, e1, by simp only []; omega, fun j y hj' hy => ?_⟩
            rcases Nat.lt_or_ge j i with hji | hji
            · exact hj j y hji hy
            · obtain rfl : j = i := by omega
              rw [hx] at hy; obtain rfl := Option.some.inj hy; exact e3
      · right
        rw [if_neg (by omega)]
        refine ⟨_, rfl, .inl ⟨a, rfl, h1, h2, fun x hx => ?_⟩⟩
        obtain ⟨j, hj'⟩ := List.getElem?_of_mem hx
        exact hj j x (by have := (List.getElem?_eq_some_iff.1 hj').1; omega) hj') (s := (n - l.length, 0)) ⟨rfl, by simp only []; omega, by simp only []; omega, fun j x hj => by omega⟩
    rw [q1]
    rcases q2 with ⟨r, rfl, h1, h2, h3⟩ | rfl
    · exact ⟨r, rfl, .inr ⟨h1, h2, by omega, h3⟩⟩
    · exact ⟨-1, rfl, .inl (by omega)⟩
theorem eqInt64SS_self {l : List (List Int)} (hl : (l.length : Int) ≤ 1048576) (hw : ∀ x ∈ l, (x.length : Int) ≤ 1048576) : laws_eqInt64SS l l = some true := by
  unfold laws_eqInt64SS
  rw [if_neg (by simp)]
  obtain ⟨t, h1, rfl⟩ := loop_rule (step := laws_eqInt64SS_s1 l l) (fun i s => s = (i : Int)) (fun t => t = .inl ()) l.length (by
    rintro i s hi rfl
    simp only [laws_eqInt64SS_s1, decide_eq_true_eq]
    rcases Nat.lt_or_ge i l.length with h | h
    · left
      obtain ⟨x, hx, hm⟩ := get_lt h
      rw [if_pos (by omega), getI_nat, hx, w64 (by omega)]
      simp only [Option.bind_some, laws_eqInt64S_self (l := x) (by have := hw x hm; unfold maxI; omega), if_true]
      exact ⟨h, _, rfl, by simp⟩
    · right
      rw [if_neg (by omega)]
      exact ⟨_, rfl, rfl⟩) (s := 0) rfl
  rw [h1]; rfl
theorem eqPlan_self {s : SPlan} : laws_eqPlan s s = true := by simp [laws_eqPlan]
theorem eqFrame_self {s : SFrame} (h1 : (s.Lows.length : Int) ≤ 1048576) (h2 : (s.Gains.length : Int) ≤ 1048576) (h3 : (s.Pulses.length : Int) ≤ 1048576) (h4 : ∀ x ∈ s.Pulses, (x.length : Int) ≤ 1048576) : laws_eqFrame s s = some true := by
  have e1 := laws_eqInt64S_self (l := s.Lows) (by unfold maxI; omega)
  have e2 := laws_eqInt64S_self (l := s.Gains) (by unfold maxI; omega)
  have e3 := eqInt64SS_self h3 h4
  simp [laws_eqFrame, laws_eqFrame_u1, laws_eqFrame_u2, e1, e2, e3]
theorem eqOutcome_self {s : SOutcome} (h : OutOk s) : laws_eqOutcome s s = some true := by
  obtain ⟨h1, h2, h3, h4, h5, h6, h7, h8⟩ := h
  have e1 := laws_eqInt64S_self (l := s.Codes) (by unfold maxI; omega)
  have e2 := laws_eqInt64S_self (l := s.Frame) (by unfold maxI; omega)
  have e3 := laws_eqInt64S_self (l := s.Coefs) (by unfold maxI; omega)
  have e4 := laws_eqInt64S_self (l := s.Bounds) (by unfold maxI; omega)
  have e5 := eqFrame_self h1 h2 h3 h4
  have eP : SPlan.mk s.Plan.Spread s.Plan.Paths s.Plan.IntraA s.Plan.IntraB = s.Plan := rfl
  have eF : SFrame.mk s.Sent.Number s.Sent.Size s.Sent.Rung s.Sent.Mask s.Sent.Spread s.Sent.Lows s.Sent.Gains s.Sent.Pulses = s.Sent := rfl
  simp [laws_eqOutcome, laws_eqOutcome_u1, laws_eqOutcome_u2, laws_eqOutcome_u3, laws_eqOutcome_u4, laws_eqOutcome_u5, laws_eqOutcome_u6, laws_eqOutcome_u7, laws_eqOutcome_u8, eP, eF, eqPlan_self, e1, e2, e3, e4, e5]
theorem eqOutcomeS_self {l : List SOutcome} (hl : (l.length : Int) ≤ 1048576) (hw : ∀ x ∈ l, OutOk x) : laws_eqOutcomeS l l = some true := by
  unfold laws_eqOutcomeS
  rw [if_neg (by simp)]
  obtain ⟨t, h1, rfl⟩ := loop_rule (step := laws_eqOutcomeS_s1 l l) (fun i s => s = (i : Int)) (fun t => t = .inl ()) l.length (by
    rintro i s hi rfl
    simp only [laws_eqOutcomeS_s1, decide_eq_true_eq]
    rcases Nat.lt_or_ge i l.length with h | h
    · left
      obtain ⟨x, hx, hm⟩ := get_lt h
      rw [if_pos (by omega), getI_nat, hx, w64 (by omega)]
      simp only [Option.bind_some, eqOutcome_self (hw x hm), if_true]
      exact ⟨h, _, rfl, by simp⟩
    · right
      rw [if_neg (by omega)]
      exact ⟨_, rfl, rfl⟩) (s := 0) rfl
  rw [h1]; rfl
theorem markInt64SS_eq {l : List (List Int)} {k : Int} (hk : 0 ≤ k ∧ k ≤ 4611686018427387904) (hl : (l.length : Int) ≤ 1048576) (hw : ∀ x ∈ l, (x.length : Int) ≤ 1048576) :
    ∃ k' l', laws_markInt64SS l k = some (k', l') ∧ k ≤ k' ∧ k' ≤ k + 1099511627776 ∧ l'.length = l.length ∧ ∀ x ∈ l', (x.length : Int) ≤ 1048576 := by
  unfold laws_markInt64SS
  obtain ⟨t, h1, h2, h3, h4, h5⟩ := loop_rule (step := laws_markInt64SS_s1) (fun i s => k ≤ s.2.1 ∧ s.2.1 ≤ k + i * 1048576 ∧ s.2.2 = (i : Int) ∧ s.1.length = l.length ∧ ∀ x ∈ s.1, (x.length : Int) ≤ 1048576) (fun t => k ≤ t.2 ∧ t.2 ≤ k + 1099511627776 ∧ t.1.length = l.length ∧ ∀ x ∈ t.1, (x.length : Int) ≤ 1048576) l.length (by
    rintro i ⟨a, m, n⟩ hi ⟨hm1, hm2, hn, ha, hj⟩
    simp only at hm1 hm2 hn ha hj
    subst hn
    simp only [laws_markInt64SS_s1, decide_eq_true_eq]
    rcases Nat.lt_or_ge i l.length with hh | hh
    · left
      obtain ⟨x, hx, hxm⟩ := get_lt (l := a) (i := i) (by omega)
      have hxl := hj x hxm
      obtain ⟨x', m1, m2, _⟩ := laws_markInt64S_eq (l := x) (k := m) (by omega) (by unfold maxI; omega)
      rw [if_pos (by omega), getI_nat, hx, Int.toNat_natCast, hx, w64 (by omega)]
      simp only [Option.bind_some, m1, m2, if_true]
      refine ⟨hh, _, rfl, by simp only []; omega, by simp only []; omega, by simp, by simp [ha], fun y hy => ?_⟩
      rcases List.mem_or_eq_of_mem_set hy with e | e
      · exact hj y e
      · rw [e, m2]; exact hxl
    · right
      rw [if_neg (by omega)]
      exact ⟨_, rfl, hm1, by simp only []; omega, ha, hj⟩) (s := (l, k, 0)) ⟨by simp, by simp, rfl, rfl, hw⟩
  rw [h1]
  exact ⟨_, _, rfl, h2, h3, h4, h5⟩
def InvO (L : Nat) (a : List SOutcome) : Prop := a.length = L ∧ ∀ x ∈ a, OutOk x
theorem InvO.set {L : Nat} {a : List SOutcome} (h : InvO L a) {i : Nat} {x : SOutcome} (hx : OutOk x) : InvO L (a.set i x) := by
  refine ⟨by rw [List.length_set]; exact h.1, fun y hy => ?_⟩
  rcases List.mem_or_eq_of_mem_set hy with e | e
  · exact h.2 y e
  · rw [e]; exact hx
theorem markO_u1 {L i : Nat} {a : List SOutcome} {k : Int} (h : InvO L a) (hi : i < L) : ∃ a', laws_markOutcomeS_u1 a k (i : Int) = some a' ∧ InvO L a' := by
  obtain ⟨x, hx, hm⟩ := get_lt (l := a) (i := i) (by rw [h.1]; exact hi)
  have o := h.2 x hm
  refine ⟨_, by unfold laws_markOutcomeS_u1; rw [getI_nat, hx, Int.toNat_natCast, hx]; rfl, ?_⟩
  exact h.set ⟨o.lows, o.gains, o.pulses, o.pulse, o.codes, o.frame, o.coefs, o.bounds⟩
theorem markO_u2 {L i : Nat} {a : List SOutcome} {k : Int} (h : InvO L a) (hi : i < L) : ∃ a', laws_markOutcomeS_u2 a k (i : Int) = some a' ∧ InvO L a' := by
  obtain ⟨x, hx, hm⟩ := get_lt (l := a) (i := i) (by rw [h.1]; exact hi)
  have o := h.2 x hm
  refine ⟨_, by unfold laws_markOutcomeS_u2; rw [getI_nat, hx, Int.toNat_natCast, hx]; rfl, ?_⟩
  exact h.set ⟨o.lows, o.gains, o.pulses, o.pulse, o.codes, o.frame, o.coefs, o.bounds⟩
theorem markO_u3 {L i : Nat} {a : List SOutcome} {k : Int} (h : InvO L a) (hi : i < L) : ∃ a', laws_markOutcomeS_u3 a k (i : Int) = some a' ∧ InvO L a' := by
  obtain ⟨x, hx, hm⟩ := get_lt (l := a) (i := i) (by rw [h.1]; exact hi)
  have o := h.2 x hm
  refine ⟨_, by unfold laws_markOutcomeS_u3; rw [getI_nat, hx, Int.toNat_natCast, hx]; rfl, ?_⟩
  exact h.set ⟨o.lows, o.gains, o.pulses, o.pulse, o.codes, o.frame, o.coefs, o.bounds⟩
theorem markO_u4 {L i : Nat} {a : List SOutcome} {k : Int} (h : InvO L a) (hi : i < L) : ∃ a', laws_markOutcomeS_u4 a k (i : Int) = some a' ∧ InvO L a' := by
  obtain ⟨x, hx, hm⟩ := get_lt (l := a) (i := i) (by rw [h.1]; exact hi)
  have o := h.2 x hm
  refine ⟨_, by unfold laws_markOutcomeS_u4; rw [getI_nat, hx, Int.toNat_natCast, hx]; rfl, ?_⟩
  exact h.set ⟨o.lows, o.gains, o.pulses, o.pulse, o.codes, o.frame, o.coefs, o.bounds⟩
theorem markO_u5 {L i : Nat} {a : List SOutcome} {k : Int} (h : InvO L a) (hi : i < L) : ∃ a', laws_markOutcomeS_u5 a k (i : Int) = some a' ∧ InvO L a' := by
  obtain ⟨x, hx, hm⟩ := get_lt (l := a) (i := i) (by rw [h.1]; exact hi)
  have o := h.2 x hm
  refine ⟨_, by unfold laws_markOutcomeS_u5; rw [getI_nat, hx, Int.toNat_natCast, hx]; rfl, ?_⟩
  exact h.set ⟨o.lows, o.gains, o.pulses, o.pulse, o.codes, o.frame, o.coefs, o.bounds⟩
theorem markO_u6 {L i : Nat} {a : List SOutcome} {k : Int} (h : InvO L a) (hi : i < L) : ∃ a', laws_markOutcomeS_u6 a k (i : Int) = some a' ∧ InvO L a' := by
  obtain ⟨x, hx, hm⟩ := get_lt (l := a) (i := i) (by rw [h.1]; exact hi)
  have o := h.2 x hm
  refine ⟨_, by unfold laws_markOutcomeS_u6; rw [getI_nat, hx, Int.toNat_natCast, hx]; rfl, ?_⟩
  exact h.set ⟨o.lows, o.gains, o.pulses, o.pulse, o.codes, o.frame, o.coefs, o.bounds⟩
theorem markO_u7 {L i : Nat} {a : List SOutcome} {k : Int} (h : InvO L a) (hi : i < L) : ∃ a', laws_markOutcomeS_u7 a k (i : Int) = some a' ∧ InvO L a' := by
  obtain ⟨x, hx, hm⟩ := get_lt (l := a) (i := i) (by rw [h.1]; exact hi)
  have o := h.2 x hm
  refine ⟨_, by unfold laws_markOutcomeS_u7; rw [getI_nat, hx, Int.toNat_natCast, hx]; rfl, ?_⟩
  exact h.set ⟨o.lows, o.gains, o.pulses, o.pulse, o.codes, o.frame, o.coefs, o.bounds⟩
theorem markO_u8 {L i : Nat} {a : List SOutcome} {k : Int} (h : InvO L a) (hi : i < L) : ∃ a', laws_markOutcomeS_u8 a k (i : Int) = some a' ∧ InvO L a' := by
  obtain ⟨x, hx, hm⟩ := get_lt (l := a) (i := i) (by rw [h.1]; exact hi)
  have o := h.2 x hm
  refine ⟨_, by unfold laws_markOutcomeS_u8; rw [getI_nat, hx, Int.toNat_natCast, hx]; rfl, ?_⟩
  exact h.set ⟨o.lows, o.gains, o.pulses, o.pulse, o.codes, o.frame, o.coefs, o.bounds⟩
theorem markO_u9 {L i : Nat} {a : List SOutcome} {k : Int} (h : InvO L a) (hi : i < L) : ∃ a', laws_markOutcomeS_u9 a k (i : Int) = some a' ∧ InvO L a' := by
  obtain ⟨x, hx, hm⟩ := get_lt (l := a) (i := i) (by rw [h.1]; exact hi)
  have o := h.2 x hm
  refine ⟨_, by unfold laws_markOutcomeS_u9; rw [getI_nat, hx, Int.toNat_natCast, hx]; rfl, ?_⟩
  exact h.set ⟨o.lows, o.gains, o.pulses, o.pulse, o.codes, o.frame, o.coefs, o.bounds⟩
theorem markO_u10 {L i : Nat} {a : List SOutcome} {k : Int} (h : InvO L a) (hi : i < L) (hk : 0 ≤ k ∧ k ≤ 4611686018427387904) : ∃ a' k', laws_markOutcomeS_u10 a k (i : Int) = some (a', k') ∧ InvO L a' ∧ k ≤ k' ∧ k' ≤ k + 1048576 := by
  obtain ⟨x, hx, hm⟩ := get_lt (l := a) (i := i) (by rw [h.1]; exact hi)
  have o := h.2 x hm
  have ol := o.lows
  obtain ⟨l', m1, m2, _⟩ := laws_markInt64S_eq (l := x.Sent.Lows) (k := k) (by omega) (by unfold maxI; omega)
  refine ⟨_, _, by unfold laws_markOutcomeS_u10; rw [getI_nat, hx, Int.toNat_natCast, hx]; simp only [Option.bind_some, m1, m2, if_true]; rfl, ?_, by omega, by omega⟩
  exact h.set ⟨by rw [m2]; exact o.lows, o.gains, o.pulses, o.pulse, o.codes, o.frame, o.coefs, o.bounds⟩
theorem markO_u11 {L i : Nat} {a : List SOutcome} {k : Int} (h : InvO L a) (hi : i < L) (hk : 0 ≤ k ∧ k ≤ 4611686018427387904) : ∃ a' k', laws_markOutcomeS_u11 a k (i : Int) = some (a', k') ∧ InvO L a' ∧ k ≤ k' ∧ k' ≤ k + 1048576 := by
  obtain ⟨x, hx, hm⟩ := get_lt (l := a) (i := i) (by rw [h.1]; exact hi)
  have o := h.2 x hm
  have ol := o.gains
  obtain ⟨l', m1, m2, _⟩ := laws_markInt64S_eq (l := x.Sent.Gains) (k := k) (by omega) (by unfold maxI; omega)
  refine ⟨_, _, by unfold laws_markOutcomeS_u11; rw [getI_nat, hx, Int.toNat_natCast, hx]; simp only [Option.bind_some, m1, m2, if_true]; rfl, ?_, by omega, by omega⟩
  exact h.set ⟨o.lows, by rw [m2]; exact o.gains, o.pulses, o.pulse, o.codes, o.frame, o.coefs, o.bounds⟩
theorem markO_u13 {L i : Nat} {a : List SOutcome} {k : Int} (h : InvO L a) (hi : i < L) (hk : 0 ≤ k ∧ k ≤ 4611686018427387904) : ∃ a' k', laws_markOutcomeS_u13 a k (i : Int) = some (a', k') ∧ InvO L a' ∧ k ≤ k' ∧ k' ≤ k + 1048576 := by
  obtain ⟨x, hx, hm⟩ := get_lt (l := a) (i := i) (by rw [h.1]; exact hi)
  have o := h.2 x hm
  have ol := o.codes
  obtain ⟨l', m1, m2, _⟩ := laws_markInt64S_eq (l := x.Codes) (k := k) (by omega) (by unfold maxI; omega)
  refine ⟨_, _, by unfold laws_markOutcomeS_u13; rw [getI_nat, hx, Int.toNat_natCast, hx]; simp only [Option.bind_some, m1, m2, if_true]; rfl, ?_, by omega, by omega⟩
  exact h.set ⟨o.lows, o.gains, o.pulses, o.pulse, by rw [m2]; exact o.codes, o.frame, o.coefs, o.bounds⟩
theorem markO_u14 {L i : Nat} {a : List SOutcome} {k : Int} (h : InvO L a) (hi : i < L) : ∃ a', laws_markOutcomeS_u14 a k (i : Int) = some a' ∧ InvO L a' := by
  obtain ⟨x, hx, hm⟩ := get_lt (l := a) (i := i) (by rw [h.1]; exact hi)
  have o := h.2 x hm
  refine ⟨_, by unfold laws_markOutcomeS_u14; rw [getI_nat, hx, Int.toNat_natCast, hx]; rfl, ?_⟩
  exact h.set ⟨o.lows, o.gains, o.pulses, o.pulse, o.codes, o.frame, o.coefs, o.bounds⟩
theorem markO_u15 {L i : Nat} {a : List SOutcome} {k : Int} (h : InvO L a) (hi : i < L) : ∃ a', laws_markOutcomeS_u15 a k (i : Int) = some a' ∧ InvO L a' := by
  obtain ⟨x, hx, hm⟩ := get_lt (l := a) (i := i) (by rw [h.1]; exact hi)
  have o := h.2 x hm
  refine ⟨_, by unfold laws_markOutcomeS_u15; rw [getI_nat, hx, Int.toNat_natCast, hx]; rfl, ?_⟩
  exact h.set ⟨o.lows, o.gains, o.pulses, o.pulse, o.codes, o.frame, o.coefs, o.bounds⟩
theorem markO_u16 {L i : Nat} {a : List SOutcome} {k : Int} (h : InvO L a) (hi : i < L) : ∃ a', laws_markOutcomeS_u16 a k (i : Int) = some a' ∧ InvO L a' := by
  obtain ⟨x, hx, hm⟩ := get_lt (l := a) (i := i) (by rw [h.1]; exact hi)
  have o := h.2 x hm
  refine ⟨_, by unfold laws_markOutcomeS_u16; rw [getI_nat, hx, Int.toNat_natCast, hx]; rfl, ?_⟩
  exact h.set ⟨o.lows, o.gains, o.pulses, o.pulse, o.codes, o.frame, o.coefs, o.bounds⟩
theorem markO_u17 {L i : Nat} {a : List SOutcome} {k : Int} (h : InvO L a) (hi : i < L) (hk : 0 ≤ k ∧ k ≤ 4611686018427387904) : ∃ a' k', laws_markOutcomeS_u17 a k (i : Int) = some (a', k') ∧ InvO L a' ∧ k ≤ k' ∧ k' ≤ k + 1048576 := by
  obtain ⟨x, hx, hm⟩ := get_lt (l := a) (i := i) (by rw [h.1]; exact hi)
  have o := h.2 x hm
  have ol := o.frame
  obtain ⟨l', m1, m2, _⟩ := laws_markInt64S_eq (l := x.Frame) (k := k) (by omega) (by unfold maxI; omega)
  refine ⟨_, _, by unfold laws_markOutcomeS_u17; rw [getI_nat, hx, Int.toNat_natCast, hx]; simp only [Option.bind_some, m1, m2, if_true]; rfl, ?_, by omega, by omega⟩
  exact h.set ⟨o.lows, o.gains, o.pulses, o.pulse, o.codes, by rw [m2]; exact o.frame, o.coefs, o.bounds⟩
theorem markO_u18 {L i : Nat} {a : List SOutcome} {k : Int} (h : InvO L a) (hi : i < L) (hk : 0 ≤ k ∧ k ≤ 4611686018427387904) : ∃ a' k', laws_markOutcomeS_u18 a k (i : Int) = some (a', k') ∧ InvO L a' ∧ k ≤ k' ∧ k' ≤ k + 1048576 := by
  obtain ⟨x, hx, hm⟩ := get_lt (l := a) (i := i) (by rw [h.1]; exact hi)
  have o := h.2 x hm
  have ol := o.coefs
  obtain ⟨l', m1, m2, _⟩ := laws_markInt64S_eq (l := x.Coefs) (k := k) (by omega) (by unfold maxI; omega)
  refine ⟨_, _, by unfold laws_markOutcomeS_u18; rw [getI_nat, hx, Int.toNat_natCast, hx]; simp only [Option.bind_some, m1, m2, if_true]; rfl, ?_, by omega, by omega⟩
  exact h.set ⟨o.lows, o.gains, o.pulses, o.pulse, o.codes, o.frame, by rw [m2]; exact o.coefs, o.bounds⟩
theorem markO_u19 {L i : Nat} {a : List SOutcome} {k : Int} (h : InvO L a) (hi : i < L) (hk : 0 ≤ k ∧ k ≤ 4611686018427387904) : ∃ a' k', laws_markOutcomeS_u19 a k (i : Int) = some (a', k') ∧ InvO L a' ∧ k ≤ k' ∧ k' ≤ k + 1048576 := by
  obtain ⟨x, hx, hm⟩ := get_lt (l := a) (i := i) (by rw [h.1]; exact hi)
  have o := h.2 x hm
  have ol := o.bounds
  obtain ⟨l', m1, m2, _⟩ := laws_markInt64S_eq (l := x.Bounds) (k := k) (by omega) (by unfold maxI; omega)
  refine ⟨_, _, by unfold laws_markOutcomeS_u19; rw [getI_nat, hx, Int.toNat_natCast, hx]; simp only [Option.bind_some, m1, m2, if_true]; rfl, ?_, by omega, by omega⟩
  exact h.set ⟨o.lows, o.gains, o.pulses, o.pulse, o.codes, o.frame, o.coefs, by rw [m2]; exact o.bounds⟩
theorem markO_u12 {L i : Nat} {a : List SOutcome} {k : Int} (h : InvO L a) (hi : i < L) (hk : 0 ≤ k ∧ k ≤ 4611686018427387904) : ∃ a' k', laws_markOutcomeS_u12 a k (i : Int) = some (a', k') ∧ InvO L a' ∧ k ≤ k' ∧ k' ≤ k + 1099511627776 := by
  obtain ⟨x, hx, hm⟩ := get_lt (l := a) (i := i) (by rw [h.1]; exact hi)
  have o := h.2 x hm
  obtain ⟨k', l', m1, m2, m3, m4, m5⟩ := markInt64SS_eq (l := x.Sent.Pulses) (k := k) hk o.pulses o.pulse
  refine ⟨_, _, by unfold laws_markOutcomeS_u12; rw [getI_nat, hx, Int.toNat_natCast, hx]; simp only [Option.bind_some, m1, m4, if_true]; rfl, ?_, m2, m3⟩
  exact h.set ⟨o.lows, o.gains, by rw [m4]; exact o.pulses, m5, o.codes, o.frame, o.coefs, o.bounds⟩
theorem markOutcomeS_eq {l : List SOutcome} (hl : (l.length : Int) ≤ 1048576) (hw : ∀ x ∈ l, OutOk x) : ∃ k' l', laws_markOutcomeS l 1 = some (k', l') ∧ 0 ≤ k' ∧ l'.length = l.length := by
  unfold laws_markOutcomeS
  obtain ⟨t, h1, h2, h3⟩ := loop_rule (step := laws_markOutcomeS_s20) (fun i s => InvO l.length s.1 ∧ 1 ≤ s.2.1 ∧ s.2.1 ≤ 1 + i * 2199023255552 ∧ s.2.2 = (i : Int)) (fun t => 0 ≤ t.2 ∧ t.1.length = l.length) l.length (by
    rintro i ⟨a, m, n⟩ hi ⟨hI, hm1, hm2, hn⟩
    simp only at hI hm1 hm2 hn
    subst hn
    simp only [laws_markOutcomeS_s20, decide_eq_true_eq]
    have hla := hI.1
    rcases Nat.lt_or_ge i l.length with hh | hh
    · left
      rw [if_pos (by omega)]
      have hb : m ≤ 2305843009213693953 := by omega
      rw [w64 (n := m + 1) (by omega), w64 (n := m + 1 + 1) (by omega), w64 (n := m + 1 + 1 + 1) (by omega), w64 (n := m + 1 + 1 + 1 + 1) (by omega), w64 (n := m + 1 + 1 + 1 + 1 + 1) (by omega), w64 (n := m + 1 + 1 + 1 + 1 + 1 + 1) (by omega), w64 (n := m + 1 + 1 + 1 + 1 + 1 + 1 + 1) (by omega), w64 (n := m + 1 + 1 + 1 + 1 + 1 + 1 + 1 + 1) (by omega), w64 (n := m + 1 + 1 + 1 + 1 + 1 + 1 + 1 + 1 + 1) (by omega)]
      obtain ⟨a1, e1, i1⟩ := markO_u1 (k := m) hI hh
      obtain ⟨a2, e2, i2⟩ := markO_u2 (k := m + 1) i1 hh
      obtain ⟨a3, e3, i3⟩ := markO_u3 (k := m + 1 + 1) i2 hh
      obtain ⟨a4, e4, i4⟩ := markO_u4 (k := m + 1 + 1 + 1) i3 hh
      obtain ⟨a5, e5, i5⟩ := markO_u5 (k := m + 1 + 1 + 1 + 1) i4 hh
      obtain ⟨a6, e6, i6⟩ := markO_u6 (k := m + 1 + 1 + 1 + 1 + 1) i5 hh
      obtain ⟨a7, e7, i7⟩ := markO_u7 (k := m + 1 + 1 + 1 + 1 + 1 + 1) i6 hh
      obtain ⟨a8, e8, i8⟩ := markO_u8 (k := m + 1 + 1 + 1 + 1 + 1 + 1 + 1) i7 hh
      obtain ⟨a9, e9, i9⟩ := markO_u9 (k := m + 1 + 1 + 1 + 1 + 1 + 1 + 1 + 1) i8 hh
      obtain ⟨a10, k10, e10, i10, b10, c10⟩ := markO_u10 (k := m + 1 + 1 + 1 + 1 + 1 + 1 + 1 + 1 + 1) i9 hh (by omega)
      obtain ⟨a11, k11, e11, i11, b11, c11⟩ := markO_u11 (k := k10) i10 hh (by omega)
      obtain ⟨a12, k12, e12, i12, b12, c12⟩ := markO_u12 (k := k11) i11 hh (by omega)
      obtain ⟨a13, k13, e13, i13, b13, c13⟩ := markO_u13 (k := k12) i12 hh (by omega)
      obtain ⟨a14, e14, i14⟩ := markO_u14 (k := k13) i13 hh
      obtain ⟨a15, e15, i15⟩ := markO_u15 (k := k13 + 1) i14 hh
      obtain ⟨a16, e16, i16⟩ := markO_u16 (k := k13 + 1 + 1) i15 hh
      obtain ⟨a17, k17, e17, i17, b17, c17⟩ := markO_u17 (k := k13 + 1 + 1 + 1) i16 hh (by omega)
      obtain ⟨a18, k18, e18, i18, b18, c18⟩ := markO_u18 (k := k17) i17 hh (by omega)
      obtain ⟨a19, k19, e19, i19, b19, c19⟩ := markO_u19 (k := k18) i18 hh (by omega)
      simp only [e1, e2, e3, e4, e5, e6, e7, e8, e9, e10, e11, e12, e13, Option.bind_some]
      rw [w64 (n := k13 + 1) (by omega), w64 (n := k13 + 1 + 1) (by omega), w64 (n := k13 + 1 + 1 + 1) (by omega), w64 (n := (i : Int) + 1) (by omega)]
      simp only [e14, e15, e16, e17, e18, e19, Option.bind_some]
      exact ⟨hh, _, rfl, i19, by simp only []; omega, by simp only []; omega, by simp⟩
    · right
      rw [if_neg (by omega)]
      exact ⟨_, rfl, by simp only []; omega, hla⟩) (s := (l, 1, 0)) ⟨⟨rfl, hw⟩, by simp, by simp, rfl⟩
  rw [h1]
  exact ⟨_, _, rfl, h2, h3⟩
def srcO (x : SOutcome) : Int := if x.Played = true then x.Source else -1
theorem take_src {p : List SOutcome} {i : Nat} {x : SOutcome} (hx : p[i]? = some x) : (p.take (i + 1)).map srcO = (p.take i).map srcO ++ [srcO x] := by
  rw [List.take_add_one, hx]; simp
theorem spec_src {p : List SOutcome} (hp : p.length ≤ 40) : spec_SourcesOf p = some ⟨0, p.map srcO⟩ := by
  unfold spec_SourcesOf
  rw [if_neg (by simp; omega)]
  obtain ⟨t, h1, rfl⟩ := loop_rule (step := spec_SourcesOf_s5 p) (fun i s => s = ((p.take i).map srcO, (i : Int))) (fun t => t = p.map srcO) p.length (by
    rintro i s hi rfl
    simp only [spec_SourcesOf_s5, decide_eq_true_eq]
    rcases Nat.lt_or_ge i p.length with h | h
    · left
      rw [if_pos (by omega)]
      obtain ⟨x, hx, _⟩ := get_lt h
      refine ⟨h, _, ?_, rfl⟩
      have hlen : okApp 8 (min i p.length + 1) = true := okApp_8 (by omega)
      unfold spec_SourcesOf_u4 spec_SourcesOf_u3
      rw [take_src hx, getI_nat, hx, w64 (by omega)]
      unfold srcO at *
      cases hp1 : x.Played <;> simp [hp1, hlen]
    · right
      obtain rfl : i = p.length := by omega
      rw [if_neg (by omega)]
      exact ⟨_, rfl, by rw [List.take_length]⟩) (s := ([], 0)) rfl
  rw [h1]; rfl
theorem impl_src {p : List SOutcome} (hp : p.length ≤ 40) : impl_SourcesOf p = some ⟨0, p.map srcO⟩ := by
  unfold impl_SourcesOf
  rw [if_neg (by simp; omega)]
  obtain ⟨t, h1, rfl⟩ := loop_rule (step := impl_SourcesOf_s3 p (p.length : Int)) (fun i s => s = ((p.take i).map srcO, (i : Int))) (fun t => t = p.map srcO) p.length (by
    rintro i s hi rfl
    simp only [impl_SourcesOf_s3, decide_eq_true_eq]
    rcases Nat.lt_or_ge i p.length with h | h
    · left
      rw [if_pos (by omega)]
      obtain ⟨x, hx, _⟩ := get_lt h
      refine ⟨h, _, ?_, rfl⟩
      have hlen : okApp 8 (min i p.length + 1) = true := okApp_8 (by omega)
      rw [take_src hx, getI_nat, hx, w64 (by omega)]
      unfold impl_SourcesOf_u2
      unfold srcO at *
      cases hp1 : x.Played <;> simp [hp1, hlen]
    · right
      obtain rfl : i = p.length := by omega
      rw [if_neg (by omega)]
      exact ⟨_, rfl, by rw [List.take_length]⟩) (s := ([], 0)) rfl
  rw [h1]; rfl
theorem src_long {p : List SOutcome} (hp : ¬ p.length ≤ 40) : spec_SourcesOf p = some ⟨2, []⟩ ∧ impl_SourcesOf p = some ⟨2, []⟩ := by
  unfold spec_SourcesOf impl_SourcesOf
  rw [if_pos (by simp; omega), if_pos (by simp; omega)]
  exact ⟨rfl, rfl⟩
theorem src_same (p : List SOutcome) : ∃ r, spec_SourcesOf p = some r ∧ impl_SourcesOf p = some r ∧ r.List_.length ≤ 41 := by
  by_cases hp : p.length ≤ 40
  · exact ⟨_, spec_src hp, impl_src hp, by simp; omega⟩
  · exact ⟨_, (src_long hp).1, (src_long hp).2, by simp⟩
--REST0
--REST
theorem pure (p : List SOutcome) (h : (p.length : Int) ≤ maxI ∧ ∀ x ∈ p, x.Wf) : laws_FnExactSourcesOf p = some true := by
  obtain ⟨hl, hw⟩ := h
  obtain ⟨r, s1, s2⟩ := szOS_spec (n := 1048576) (by omega) hl hw
  unfold laws_FnExactSourcesOf laws_FnExactSourcesOf_u1
  simp only [s1, Option.bind_some, decide_eq_true_eq]
  rcases s2 with s2 | ⟨_, _, s3, s4⟩
  · rw [if_pos s2]
  rw [if_neg (by omega)]
  have hto := toOutcomeS_eq s3 s4
  obtain ⟨g, g1, g2, g3⟩ := src_same p
  have gm : (g.List_.length : Int) ≤ maxI := by unfold maxI; omega
  have heq : laws_eqIntsResult ⟨g.Code, g.List_⟩ ⟨g.Code, g.List_⟩ = some true := by
    unfold laws_eqIntsResult
    simp [laws_eqInt64S_self gm]
  obtain ⟨k, p', k1, k2, k3⟩ := markOutcomeS_eq s3 s4
  obtain ⟨l', m1, m2, m3⟩ := laws_markInt64S_eq (l := g.List_) (k := 1) (by omega) (by unfold maxI; omega)
  have hm : laws_markIntsResult_o ⟨g.Code, g.List_⟩ 1 = some (1 + (g.List_.length : Int), SIntsResult.mk g.Code l') := by
    unfold laws_markIntsResult_o
    simp [m1, m2]
  have hh : laws_heldIntsResult ⟨g.Code, l'⟩ 1 = some (1 + (g.List_.length : Int)) := by
    unfold laws_heldIntsResult
    simp only [m3, Option.bind_some, decide_eq_true_eq]
    rw [if_neg (by omega)]
  have hk : ¬ (k < 0) := by omega
  have hn : ¬ ((1 : Int) + g.List_.length < 0) := by omega
  unfold laws_FnExactSourcesOf_u2 laws_FnExactSourcesOf_u3 laws_FnExactSourcesOf_u4 laws_FnExactSourcesOf_u5 laws_FnExactSourcesOf_u6 laws_FnExactSourcesOf_u15 laws_FnExactSourcesOf_u7 laws_FnExactSourcesOf_u8 laws_FnExactSourcesOf_u9 laws_FnExactSourcesOf_u10 laws_FnExactSourcesOf_u14 laws_FnExactSourcesOf_u11 laws_FnExactSourcesOf_u12 laws_FnExactSourcesOf_u13
  simp only [hto, g1, g2, heq, eqOutcomeS_self s3 s4, k1, k3, hm, hh, hk, hn, m2, Option.bind_some, Bool.not_true, Bool.false_eq_true, if_false, if_true, decide_eq_true_eq, bne_self_eq_false]
end FnExactSourcesOf
end Go.Proofs.Ytnffopcjijoclaa.Wm
