/- What FnExactPlanOf comes to on plain values: true. -/
import Derived.Test.YtgnohnlpicmnaaaFnFnExactPlanOf
set_option linter.unusedSimpArgs false
set_option linter.unusedVariables false
set_option maxRecDepth 100000
namespace Go.Proofs.Ytgnohnlpicmnaaa.Wm
open Go
namespace FnExactPlanOf
theorem laws_toInt64S_eq {l : List Int} (hl : (l.length : Int) ≤ 35184372088832) : laws_toInt64S l = some l := by
  unfold laws_toInt64S
  rw [if_pos (okMake_8 (by omega) hl), Int.toNat_natCast]
  obtain ⟨t, h1, rfl⟩ := loop_rule (step := laws_toInt64S_s1 l) (fun i s => s.2 = i ∧ s.1.length = l.length ∧ ∀ j, j < i → s.1[j]? = l[j]?) (fun t => t = l) l.length (by
    rintro i ⟨a, k⟩ hi ⟨hk, ha, hj⟩
    simp only at hk ha hj
    subst hk
    simp only [laws_toInt64S_s1, decide_eq_true_eq]
    rcases Nat.lt_or_ge i l.length with h | h
    · left
      obtain ⟨x, hx, _⟩ := get_lt h
      obtain ⟨y, hy, _⟩ := get_lt (l := a) (i := i) (by omega)
      rw [if_pos (by omega), getI_nat, hx, getI_nat, hy, Int.toNat_natCast, hy, w64 (by omega)]
      refine ⟨h, _, rfl, by simp, by simp [ha], fun j hj' => ?_⟩
      simp only [List.getElem?_set]
      split
      · rename_i e; subst e; rw [if_pos (by omega), hx]
      · exact hj j (by omega)
    · right
      rw [if_neg (by omega)]
      exact ⟨a, rfl, list_ext ha fun j hj' => hj j (by omega)⟩) (s := (List.replicate l.length 0, 0)) ⟨rfl, by simp, fun j hj => by omega⟩
  rw [h1]; rfl
theorem laws_toScheduler_eq {s : SScheduler} (hl : (s.Window.length : Int) ≤ 35184372088832) : laws_toScheduler s = some s := by
  unfold laws_toScheduler
  rw [laws_toInt64S_eq hl]; rfl
theorem spec_l1In_eq {a b c : Int} : spec_l1In a b c = decide (b ≤ a ∧ a ≤ c) := by
  simp only [spec_l1In, spec_l1In_u1, decide_eq_true_eq]
  by_cases h1 : b ≤ a <;> by_cases h2 : a ≤ c <;> simp [h1, h2]
theorem spec_l1All_eq {l : List Int} {a b : Int} (hl : (l.length : Int) ≤ maxI) : spec_l1All l a b = some (decide (∀ x ∈ l, a ≤ x ∧ x ≤ b)) := by
  unfold maxI at hl
  unfold spec_l1All
  obtain ⟨t, h1, h2⟩ := loop_rule (step := spec_l1All_s1 l a b) (fun i s => s = (i : Int) ∧ ∀ j x, j < i → l[j]? = some x → a ≤ x ∧ x ≤ b)
      (fun t => (t = .inl () ∧ ∀ x ∈ l, a ≤ x ∧ x ≤ b) ∨ (t = .inr () ∧ ∃ x ∈ l, ¬ (a ≤ x ∧ x ≤ b))) l.length (by
    rintro i s hi ⟨rfl, hj⟩
    simp only [spec_l1All_s1, decide_eq_true_eq]
    rcases Nat.lt_or_ge i l.length with h | h
    · obtain ⟨x, hx, hm⟩ := get_lt h
      rw [if_pos (by omega), getI_nat, hx, w64 (by omega)]
      simp only [Option.bind_some, spec_l1In_eq, decide_eq_true_eq]
      by_cases hp : a ≤ x ∧ x ≤ b
      · left
        rw [if_pos hp]
        refine ⟨h, _, rfl, by simp, fun j y hj' hy => ?_⟩
        rcases Nat.lt_or_ge j i with hji | hji
        · exact hj j y hji hy
        · obtain rfl : j = i := by omega
          rw [hx] at hy; obtain rfl := Option.some.inj hy; exact hp
      · right
        rw [if_neg hp]
        exact ⟨_, rfl, .inr ⟨rfl, x, hm, hp⟩⟩
    · right
      rw [if_neg (by omega)]
      refine ⟨_, rfl, .inl ⟨rfl, fun x hx => ?_⟩⟩
      obtain ⟨j, hj'⟩ := List.getElem?_of_mem hx
      exact hj j x (by have := (List.getElem?_eq_some_iff.1 hj').1; omega) hj') (s := 0) ⟨rfl, fun j x hj => by omega⟩
  rw [h1]
  rcases h2 with ⟨rfl, h⟩ | ⟨rfl, x, hx, h⟩
  · simp only [Option.bind_some, Sum.elim_inl, Option.some.injEq]; exact (decide_eq_true h).symm
  · simp only [Option.bind_some, Sum.elim_inr, Option.some.injEq]; exact (decide_eq_false fun hh => h (hh x hx)).symm
theorem impl_inRange_eq {a b c : Int} : impl_inRange a b c = decide (b ≤ a ∧ a ≤ c) := by
  simp only [impl_inRange, impl_inRange_u1, decide_eq_true_eq]
  by_cases h1 : b ≤ a <;> by_cases h2 : a ≤ c <;> simp [h1, h2]
def firstL : List Int → Int
  | [] => 0
  | x :: l => if x ≠ 0 then x else firstL l
theorem firstL_skip : ∀ {i : Nat} {l : List Int}, (∀ j x, j < i → l[j]? = some x → x = 0) → firstL l = firstL (l.drop i)
  | 0, l, h => by simp
  | i + 1, [], h => by simp
  | i + 1, x :: l, h => by
    have := h 0 x (by omega) rfl
    subst this
    simp only [firstL, ne_eq, not_true, if_false, List.drop_succ_cons]
    exact firstL_skip fun j x hj hx => h (j + 1) x (by omega) (by simpa using hx)
theorem impl_first_eq {l : List Int} (hl : (l.length : Int) ≤ maxI) : impl_first l = some (firstL l) := by
  unfold maxI at hl
  unfold impl_first
  obtain ⟨t, h1, h2⟩ := loop_rule (step := impl_first_s1 l (l.length : Int)) (fun i s => s = (i : Int) ∧ ∀ j x, j < i → l[j]? = some x → x = 0)
      (fun t => (t = .inl () ∧ firstL l = 0) ∨ (t = .inr (firstL l))) l.length (by
    rintro i s hi ⟨rfl, hj⟩
    simp only [impl_first_s1, decide_eq_true_eq]
    rcases Nat.lt_or_ge i l.length with h | h
    · obtain ⟨x, hx, hm⟩ := get_lt h
      rw [if_pos (by omega), getI_nat, hx, w64 (by omega)]
      simp only [Option.bind_some, bne_iff_ne, ne_eq]
      by_cases hp : x = 0
      · left
        rw [if_neg (by simp [hp])]
        refine ⟨h, _, rfl, by simp, fun j y hj' hy => ?_⟩
        rcases Nat.lt_or_ge j i with hji | hji
        · exact hj j y hji hy
        · obtain rfl : j = i := by omega
          rw [hx] at hy; obtain rfl := Option.some.inj hy; exact hp
      · right
        rw [if_pos hp]
        refine ⟨_, rfl, .inr ?_⟩
        rw [firstL_skip hj, List.drop_eq_getElem_cons h, firstL]
        have : l[i] = x := by rw [List.getElem?_eq_getElem h] at hx; exact Option.some.inj hx
        rw [this, if_pos hp]
    · right
      rw [if_neg (by omega)]
      refine ⟨_, rfl, .inl ⟨rfl, ?_⟩⟩
      rw [firstL_skip hj, List.drop_eq_nil_of_le h]; rfl) (s := 0) ⟨rfl, fun j x hj => by omega⟩
  rw [h1]
  rcases h2 with ⟨rfl, h⟩ | rfl
  · simp [h]
  · simp
theorem impl_codeIf_eq {b : Bool} {c : Int} : impl_codeIf b c = if b = true then c else 0 := rfl
theorem laws_eqInt64S_self {l : List Int} (hl : (l.length : Int) ≤ maxI) : laws_eqInt64S l l = some true := by
  unfold maxI at hl
  unfold laws_eqInt64S
  rw [if_neg (by simp)]
  obtain ⟨t, h1, rfl⟩ := loop_rule (step := laws_eqInt64S_s1 l l) (fun i s => s = (i : Int)) (fun t => t = .inl ()) l.length (by
    rintro i s hi rfl
    simp only [laws_eqInt64S_s1, decide_eq_true_eq]
    rcases Nat.lt_or_ge i l.length with h | h
    · left
      obtain ⟨x, hx, _⟩ := get_lt h
      rw [if_pos (by omega), getI_nat, hx, w64 (by omega)]
      simp only [Option.bind_some, bne_self_eq_false, Bool.false_eq_true, if_false]
      exact ⟨h, _, rfl, by simp⟩
    · right
      rw [if_neg (by omega)]
      exact ⟨_, rfl, rfl⟩) (s := 0) rfl
  rw [h1]; rfl
theorem laws_eqScheduler_self {s : SScheduler} (hl : (s.Window.length : Int) ≤ maxI) : laws_eqScheduler s s = some true := by
  unfold laws_eqScheduler
  rw [if_neg (by simp), laws_eqInt64S_self hl]; rfl
theorem laws_szInt64S_ge {l : List Int} {n : Int} (hn : 0 ≤ n ∧ n ≤ 1048576) (hl : (l.length : Int) ≤ maxI) (h : ¬ laws_szInt64S l n < 0) : (l.length : Int) ≤ n := by
  unfold maxI at hl
  simp only [laws_szInt64S, decide_eq_true_eq] at h
  rw [w64 (by omega)] at h
  split at h <;> omega
theorem laws_szScheduler_ge {s : SScheduler} {n : Int} (hn : 0 ≤ n ∧ n ≤ 1048576) (hl : (s.Window.length : Int) ≤ maxI) (h : ¬ laws_szScheduler s n < 0) : (s.Window.length : Int) ≤ n := by
  simp only [laws_szScheduler, decide_eq_true_eq] at h
  split at h
  · omega
  · exact laws_szInt64S_ge hn hl h
theorem schedFault_contains {l : List Int} (hl : (l.length : Int) ≤ maxI) : slices_ContainsFunc_impl_SchedulerFault_1 l = some (decide (∃ x ∈ l, ¬ (0 ≤ x ∧ x ≤ 3))) := by
  unfold maxI at hl
  unfold slices_ContainsFunc_impl_SchedulerFault_1 slices_IndexFunc_impl_SchedulerFault_1
  have hp : ∀ x, impl_SchedulerFault_1 x = decide (¬ (0 ≤ x ∧ x ≤ 3)) := fun x => by
    simp only [impl_SchedulerFault_1, impl_isGot, impl_inRange_eq]
    by_cases h : 0 ≤ x ∧ x ≤ 3 <;> simp [h]
  obtain ⟨t, h1, h2⟩ := loop_rule (step := slices_IndexFunc_impl_SchedulerFault_1_s1 l (l.length : Int)) (fun i s => s = (i : Int) ∧ ∀ j x, j < i → l[j]? = some x → 0 ≤ x ∧ x ≤ 3)
      (fun t => (t = .inl () ∧ ∀ x ∈ l, 0 ≤ x ∧ x ≤ 3) ∨ (∃ n : Int, 0 ≤ n ∧ t = .inr n ∧ ∃ x ∈ l, ¬ (0 ≤ x ∧ x ≤ 3))) l.length (by
    rintro i s hi ⟨rfl, hj⟩
    simp only [slices_IndexFunc_impl_SchedulerFault_1_s1, decide_eq_true_eq]
    rcases Nat.lt_or_ge i l.length with h | h
    · obtain ⟨x, hx, hm⟩ := get_lt h
      rw [if_pos (by omega), getI_nat, hx, w64 (by omega)]
      simp only [Option.bind_some, hp, decide_eq_true_eq]
      by_cases hq : 0 ≤ x ∧ x ≤ 3
      · left
        rw [if_neg (fun h => h hq)]
        refine ⟨h, _, rfl, by simp, fun j y hj' hy => ?_⟩
        rcases Nat.lt_or_ge j i with hji | hji
        · exact hj j y hji hy
        · obtain rfl : j = i := by omega
          rw [hx] at hy; obtain rfl := Option.some.inj hy; exact hq
      · right
        rw [if_pos hq]
        exact ⟨_, rfl, .inr ⟨_, by omega, rfl, x, hm, hq⟩⟩
    · right
      rw [if_neg (by omega)]
      refine ⟨_, rfl, .inl ⟨rfl, fun x hx => ?_⟩⟩
      obtain ⟨j, hj'⟩ := List.getElem?_of_mem hx
      exact hj j x (by have := (List.getElem?_eq_some_iff.1 hj').1; omega) hj') (s := 0) ⟨rfl, fun j x hj => by omega⟩
  rw [h1]
  rcases h2 with ⟨rfl, h⟩ | ⟨n, hn, rfl, x, hx, h⟩
  · simp only [Option.bind_some, Sum.elim_inl, Option.some.injEq]
    rw [decide_eq_false (by omega)]
    exact (decide_eq_false fun ⟨x, hx, hh⟩ => hh (h x hx)).symm
  · simp only [Option.bind_some, Sum.elim_inr, Option.some.injEq]
    rw [decide_eq_true (by omega)]
    exact (decide_eq_true ⟨x, hx, h⟩).symm
theorem schedFault_same {s : SScheduler} (hl : (s.Window.length : Int) ≤ maxI) : impl_SchedulerFault s = spec_SchedulerFault s ∧ (spec_SchedulerFault s).isSome = true := by
  unfold impl_SchedulerFault spec_SchedulerFault
  rw [schedFault_contains hl, spec_l1All_eq hl]
  simp only [Option.bind_some]
  rw [impl_first_eq (by simp [maxI])]
  simp only [Option.bind_some, spec_l1In_eq, impl_inRange_eq, impl_codeIf_eq, firstL]
  by_cases h1 : -1 ≤ s.Last ∧ s.Last ≤ 9999
  · by_cases h2 : (s.Window.length : Int) > 6
    · simp [h1, h2]
    · by_cases h3 : ∀ x ∈ s.Window, 0 ≤ x ∧ x ≤ 3
      · have h4 : ¬ ∃ x ∈ s.Window, ¬ (0 ≤ x ∧ x ≤ 3) := fun ⟨x, hx, hh⟩ => hh (h3 x hx)
        rw [decide_eq_true h3, decide_eq_false h4]
        by_cases h5 : ((s.Last == -1) == ((s.Window.length : Int) == 0)) = true
        · simp [h1, h2, h5]
        · simp [h1, h2, h5]
      · have h4 : ∃ x ∈ s.Window, ¬ (0 ≤ x ∧ x ≤ 3) := Classical.byContradiction fun hh => h3 fun x hx => Classical.byContradiction fun h => hh ⟨x, hx, h⟩
        rw [decide_eq_false h3, decide_eq_true h4]
        simp [h1, h2]
  · simp [h1]
theorem loop_total {a p : Int} {w : List Int} (hl : (w.length : Int) ≤ maxI) (hp : 0 ≤ p ∧ p ≤ 1) : ∃ t, loopO (spec_l19Losses_s5 a w p) (0, 0) = some t ∧ True := by
  unfold maxI at hl
  refine loop_rule (fun i s => s.2 = (i : Int)) (fun _ => True) w.length ?_ rfl
  rintro i ⟨c, k⟩ hi hk
  simp only at hk
  subst hk
  have hw : IntKind.u64.wrap p = p := wu64 (by omega)
  simp only [spec_l19Losses_s5, decide_eq_true_eq]
  rcases Nat.lt_or_ge i w.length with h | h
  · left
    obtain ⟨x, hx, _⟩ := get_lt h
    rw [if_pos (by omega)]
    simp only [spec_l19Losses_u4, getI_nat, hx, Option.bind_some, spec_l19Lacks, hw]
    rw [if_neg (by omega), w64 (n := (i : Int) + 1) (by omega)]
    exact ⟨h, _, rfl, by simp⟩
  · right
    rw [if_neg (by omega)]
    exact ⟨_, rfl, trivial⟩
theorem steps_same {a p : Int} {w : List Int} (hp : 0 ≤ p ∧ p ≤ 1) : impl_Scheduler_lossesOn_s5 p w (w.length : Int) = spec_l19Losses_s5 a w p := by
  have hw : IntKind.u64.wrap p = p := wu64 (by omega)
  funext ⟨c, k⟩
  simp only [impl_Scheduler_lossesOn_s5, spec_l19Losses_s5, impl_Scheduler_lossesOn_u4, spec_l19Losses_u4, spec_l19Lacks, hw]
  have hn : ¬ p < 0 := by omega
  simp only [impl_Scheduler_lossesOn_u3, spec_l19Losses_u3, hn, if_false, Option.bind_some]
theorem fault_range {s : SScheduler} (hl : (s.Window.length : Int) ≤ maxI) (h : spec_SchedulerFault s = some 0) : ∀ x ∈ s.Window, 0 ≤ x ∧ x ≤ 3 := by
  unfold spec_SchedulerFault at h
  rw [spec_l1All_eq hl] at h
  by_cases h3 : ∀ x ∈ s.Window, 0 ≤ x ∧ x ≤ 3
  · exact h3
  · simp only [Option.bind_some, decide_eq_false h3] at h
    split at h
    · split at h <;> simp at h
    · simp at h
theorem losses_same {a p : Int} {w : List Int} (hl : (w.length : Int) ≤ maxI) (hp : 0 ≤ p ∧ p ≤ 1) : ∃ t, spec_l19Losses ⟨a, w⟩ p = some t ∧ impl_Scheduler_lossesOn ⟨a, w⟩ p = some t := by
  obtain ⟨t, ht, _⟩ := loop_total (a := a) hl hp
  exact ⟨t, by unfold spec_l19Losses; simp only []; rw [ht]; rfl, by unfold impl_Scheduler_lossesOn; simp only []; rw [steps_same (a := a) hp, ht]; rfl⟩
theorem plan_same {s : SScheduler} (hl : (s.Window.length : Int) ≤ maxI) (hr : ∀ x ∈ s.Window, 0 ≤ x ∧ x ≤ 3) : ∃ r, spec_l19Plan s = some r ∧ impl_Scheduler_plan s = some r := by
  obtain ⟨a, w⟩ := s
  simp only at hl hr
  obtain ⟨t0, h0, k0⟩ := losses_same (a := a) (p := 0) hl (by omega)
  obtain ⟨t1, h1, k1⟩ := losses_same (a := a) (p := 1) hl (by omega)
  unfold maxI at hl
  unfold spec_l19Plan impl_Scheduler_plan
  simp only [impl_Scheduler_plan_u1, h0, h1, k0, k1, Option.bind_some]
  rcases Nat.eq_zero_or_pos w.length with hz | hz
  · rw [hz]
    simp [spec_l19Plan_u7, impl_Scheduler_plan_u9, w64, spec_l19Plan_u2, spec_l19Plan_u1, impl_Scheduler_plan_u3, impl_Scheduler_plan_u2, spec_l19Plan_u6, spec_l19Plan_u5, spec_l19Plan_u4, spec_l19Plan_u3, impl_Scheduler_plan_u7, impl_Scheduler_plan_u6, impl_Scheduler_plan_u5, impl_Scheduler_plan_u4]
  · obtain ⟨k, hk⟩ : ∃ k, w.length = k + 1 := ⟨w.length - 1, by omega⟩
    obtain ⟨x, hx, hm⟩ := get_lt (l := w) (i := k) (by omega)
    have e : IntKind.i64.wrap ((w.length : Int) - 1) = (k : Int) := by rw [w64 (by omega)]; omega
    have d1 : decide ((w.length : Int) > 0) = true := decide_eq_true (by omega)
    have d2 : decide ((k : Int) ≥ 0) = true := decide_eq_true (by omega)
    have hx2 : x = 0 ∨ x = 1 ∨ x = 2 ∨ x = 3 := by have := hr x hm; omega
    have b0 : spec_l19Lacks x 0 = some ((IntKind.i64.wrap ((BitVec.ofInt IntKind.i64.bits x &&& BitVec.ofInt IntKind.i64.bits 1).toNat)) == 0) := by rcases hx2 with rfl | rfl | rfl | rfl <;> decide
    have b1 : spec_l19Lacks x 1 = some ((IntKind.i64.wrap ((BitVec.ofInt IntKind.i64.bits x &&& BitVec.ofInt IntKind.i64.bits 2).toNat)) == 0) := by rcases hx2 with rfl | rfl | rfl | rfl <;> decide
    simp only [spec_l19Plan_u7, impl_Scheduler_plan_u9, impl_Scheduler_plan_u8, e, d1, d2, if_true, getI_nat, hx, Option.bind_some, b0, b1]
    refine ⟨_, rfl, ?_⟩
    simp only [spec_l19Plan_u2, spec_l19Plan_u1, impl_Scheduler_plan_u3, impl_Scheduler_plan_u2, spec_l19Plan_u6, spec_l19Plan_u5, spec_l19Plan_u4, spec_l19Plan_u3, impl_Scheduler_plan_u7, impl_Scheduler_plan_u6, impl_Scheduler_plan_u5, impl_Scheduler_plan_u4]
    rfl
theorem planOf_same {s : SScheduler} (hl : (s.Window.length : Int) ≤ maxI) : ∃ r, spec_PlanOf s = some r ∧ impl_PlanOf s = some r := by
  obtain ⟨e, h1⟩ := schedFault_same hl
  obtain ⟨c, hc⟩ := Option.isSome_iff_exists.1 h1
  unfold spec_PlanOf impl_PlanOf
  rw [e, hc]
  by_cases h : c = 0
  · subst h
    obtain ⟨r, q1, q2⟩ := plan_same hl (fault_range hl hc)
    simp [q1, q2]
  · simp [h]
--REST0
theorem pure (s : SScheduler) (hs : s.Wf) : laws_FnExactPlanOf s = some true := by
  obtain ⟨_, hl, _⟩ := hs
  unfold laws_FnExactPlanOf
  simp only [decide_eq_true_eq]
  split
  · rfl
  · rename_i h
    have hl2 := laws_szScheduler_ge ⟨by omega, by omega⟩ hl h
    rw [laws_toScheduler_eq (by omega)]
    obtain ⟨r, h1, h2⟩ := planOf_same hl
    simp only [Option.bind_some, h1, h2, laws_eqScheduler_self hl]
    simp [laws_eqPlanResult, laws_eqPlan]
end FnExactPlanOf
end Go.Proofs.Ytgnohnlpicmnaaa.Wm
