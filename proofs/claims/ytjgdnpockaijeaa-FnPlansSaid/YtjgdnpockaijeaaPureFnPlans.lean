/- What FnPlans comes to on plain values: true. -/
import Derived.Test.YtjgdnpockaijeaaFnFnPlans
set_option linter.unusedSimpArgs false
set_option linter.unusedVariables false
set_option maxRecDepth 100000
namespace Go.Proofs.Ytjgdnpockaijeaa.Wm
open Go
namespace FnPlans
theorem spec_l1In_eq {a b c : Int} : spec_l1In a b c = decide (b ≤ a ∧ a ≤ c) := by
  simp only [spec_l1In, spec_l1In_u1, decide_eq_true_eq]
  by_cases h1 : b ≤ a <;> by_cases h2 : a ≤ c <;> simp [h1, h2]
theorem impl_inRange_eq {a b c : Int} : impl_inRange a b c = decide (b ≤ a ∧ a ≤ c) := by
  simp only [impl_inRange, impl_inRange_u1, decide_eq_true_eq]
  by_cases h1 : b ≤ a <;> by_cases h2 : a ≤ c <;> simp [h1, h2]
theorem spec_l1All_eq {l : List Int} {a b : Int} (hl : (l.length : Int) ≤ maxI) : spec_l1All l a b = some (decide (∀ x ∈ l, a ≤ x ∧ x ≤ b)) := by
  unfold maxI at hl
  unfold spec_l1All
  obtain ⟨t, h1, h2⟩ := loop_rule (step := spec_l1All_s1 l a b) (fun i s => s = (i : Int) ∧ ∀ j x, j < i → l[j]? = some x → a ≤ x ∧ x ≤ b)
      (fun t => (t = .inl () ∧ ∀ x ∈ l, a ≤ x ∧ x ≤ b) ∨ (t = .inr () ∧ ∃ x ∈ l, ¬ (a ≤ x ∧ x ≤ b))) l.length (by
    rintro i s hi ⟨rfl, hj⟩
    simp only [spec_l1All_s1, decide_eq_true_eq]
    rcases Nat.lt_or_ge i l.length with h | h
    · obtain ⟨x, hx, hm⟩ := get_lt h
      rw [if_pos (by omega), getI_nat, hx, w64 (by omega)]
      simp only [Option.bind_some, spec_l1In_eq, decide_eq_true_eq]
      by_cases hp : a ≤ x ∧ x ≤ b
      · left
        rw [if_pos hp]
        refine ⟨h, _, rfl, by simp, fun j y hj' hy => ?_⟩
        rcases Nat.lt_or_ge j i with hji | hji
        · exact hj j y hji hy
        · obtain rfl : j = i := by omega
          rw [hx] at hy; obtain rfl := Option.some.inj hy; exact hp
      · right
        rw [if_neg hp]
        exact ⟨_, rfl, .inr ⟨rfl, x, hm, hp⟩⟩
    · right
      rw [if_neg (by omega)]
      refine ⟨_, rfl, .inl ⟨rfl, fun x hx => ?_⟩⟩
      obtain ⟨j, hj'⟩ := List.getElem?_of_mem hx
      exact hj j x (by have := (List.getElem?_eq_some_iff.1 hj').1; omega) hj') (s := 0) ⟨rfl, fun j x hj => by omega⟩
  rw [h1]
  rcases h2 with ⟨rfl, h⟩ | ⟨rfl, x, hx, h⟩
  · simp only [Option.bind_some, Sum.elim_inl, Option.some.injEq]; exact (decide_eq_true h).symm
  · simp only [Option.bind_some, Sum.elim_inr, Option.some.injEq]; exact (decide_eq_false fun hh => h (hh x hx)).symm
def firstL : List Int → Int
  | [] => 0
  | x :: l => if x ≠ 0 then x else firstL l
theorem firstL_skip : ∀ {i : Nat} {l : List Int}, (∀ j x, j < i → l[j]? = some x → x = 0) → firstL l = firstL (l.drop i)
  | 0, l, h => by simp
  | i + 1, [], h => by simp
  | i + 1, x :: l, h => by
    have := h 0 x (by omega) rfl
    subst this
    simp only [firstL, ne_eq, not_true, if_false, List.drop_succ_cons]
    exact firstL_skip fun j x hj hx => h (j + 1) x (by omega) (by simpa using hx)
theorem impl_first_eq {l : List Int} (hl : (l.length : Int) ≤ maxI) : impl_first l = some (firstL l) := by
  unfold maxI at hl
  unfold impl_first
  obtain ⟨t, h1, h2⟩ := loop_rule (step := impl_first_s1 l (l.length : Int)) (fun i s => s = (i : Int) ∧ ∀ j x, j < i → l[j]? = some x → x = 0)
      (fun t => (t = .inl () ∧ firstL l = 0) ∨ (t = .inr (firstL l))) l.length (by
    rintro i s hi ⟨rfl, hj⟩
    simp only [impl_first_s1, decide_eq_true_eq]
    rcases Nat.lt_or_ge i l.length with h | h
    · obtain ⟨x, hx, hm⟩ := get_lt h
      rw [if_pos (by omega), getI_nat, hx, w64 (by omega)]
      simp only [Option.bind_some, bne_iff_ne, ne_eq]
      by_cases hp : x = 0
      · left
        rw [if_neg (by simp [hp])]
        refine ⟨h, _, rfl, by simp, fun j y hj' hy => ?_⟩
        rcases Nat.lt_or_ge j i with hji | hji
        · exact hj j y hji hy
        · obtain rfl : j = i := by omega
          rw [hx] at hy; obtain rfl := Option.some.inj hy; exact hp
      · right
        rw [if_pos hp]
        refine ⟨_, rfl, .inr ?_⟩
        rw [firstL_skip hj, List.drop_eq_getElem_cons h, firstL]
        have : l[i] = x := by rw [List.getElem?_eq_getElem h] at hx; exact Option.some.inj hx
        rw [this, if_pos hp]
    · right
      rw [if_neg (by omega)]
      refine ⟨_, rfl, .inl ⟨rfl, ?_⟩⟩
      rw [firstL_skip hj, List.drop_eq_nil_of_le h]; rfl) (s := 0) ⟨rfl, fun j x hj => by omega⟩
  rw [h1]
  rcases h2 with ⟨rfl, h⟩ | rfl
  · simp [h]
  · simp
theorem impl_codeIf_eq {b : Bool} {c : Int} : impl_codeIf b c = if b = true then c else 0 := rfl
theorem schedFault_contains {l : List Int} (hl : (l.length : Int) ≤ maxI) : slices_ContainsFunc_int64_impl_SchedulerFault_1 l = some (decide (∃ x ∈ l, ¬ (0 ≤ x ∧ x ≤ 3))) := by
  unfold maxI at hl
  unfold slices_ContainsFunc_int64_impl_SchedulerFault_1 slices_IndexFunc_int64_impl_SchedulerFault_1
  have hp : ∀ x, impl_SchedulerFault_1 x = decide (¬ (0 ≤ x ∧ x ≤ 3)) := fun x => by
    simp only [impl_SchedulerFault_1, impl_isGot, impl_inRange_eq]
    by_cases h : 0 ≤ x ∧ x ≤ 3 <;> simp [h]
  obtain ⟨t, h1, h2⟩ := loop_rule (step := slices_IndexFunc_int64_impl_SchedulerFault_1_s1 l (l.length : Int)) (fun i s => s = (i : Int) ∧ ∀ j x, j < i → l[j]? = some x → 0 ≤ x ∧ x ≤ 3)
      (fun t => (t = .inl () ∧ ∀ x ∈ l, 0 ≤ x ∧ x ≤ 3) ∨ (∃ n : Int, 0 ≤ n ∧ t = .inr n ∧ ∃ x ∈ l, ¬ (0 ≤ x ∧ x ≤ 3))) l.length (by
    rintro i s hi ⟨rfl, hj⟩
    simp only [slices_IndexFunc_int64_impl_SchedulerFault_1_s1, decide_eq_true_eq]
    rcases Nat.lt_or_ge i l.length with h | h
    · obtain ⟨x, hx, hm⟩ := get_lt h
      rw [if_pos (by omega), getI_nat, hx, w64 (by omega)]
      simp only [Option.bind_some, hp, decide_eq_true_eq]
      by_cases hq : 0 ≤ x ∧ x ≤ 3
      · left
        rw [if_neg (fun h => h hq)]
        refine ⟨h, _, rfl, by simp, fun j y hj' hy => ?_⟩
        rcases Nat.lt_or_ge j i with hji | hji
        · exact hj j y hji hy
        · obtain rfl : j = i := by omega
          rw [hx] at hy; obtain rfl := Option.some.inj hy; exact hq
      · right
        rw [if_pos hq]
        exact ⟨_, rfl, .inr ⟨_, by omega, rfl, x, hm, hq⟩⟩
    · right
      rw [if_neg (by omega)]
      refine ⟨_, rfl, .inl ⟨rfl, fun x hx => ?_⟩⟩
      obtain ⟨j, hj'⟩ := List.getElem?_of_mem hx
      exact hj j x (by have := (List.getElem?_eq_some_iff.1 hj').1; omega) hj') (s := 0) ⟨rfl, fun j x hj => by omega⟩
  rw [h1]
  rcases h2 with ⟨rfl, h⟩ | ⟨n, hn, rfl, x, hx, h⟩
  · simp only [Option.bind_some, Sum.elim_inl, Option.some.injEq]
    rw [decide_eq_false (by omega)]
    exact (decide_eq_false fun ⟨x, hx, hh⟩ => hh (h x hx)).symm
  · simp only [Option.bind_some, Sum.elim_inr, Option.some.injEq]
    rw [decide_eq_true (by omega)]
    exact (decide_eq_true ⟨x, hx, h⟩).symm
theorem schedFault_same {s : SScheduler} (hl : (s.Window.length : Int) ≤ maxI) : impl_SchedulerFault s = spec_SchedulerFault s ∧ (spec_SchedulerFault s).isSome = true := by
  unfold impl_SchedulerFault spec_SchedulerFault
  rw [schedFault_contains hl, spec_l1All_eq hl]
  simp only [Option.bind_some]
  rw [impl_first_eq (by simp [maxI])]
  simp only [Option.bind_some, spec_l1In_eq, impl_inRange_eq, impl_codeIf_eq, firstL]
  by_cases h1 : -1 ≤ s.Last ∧ s.Last ≤ 9999
  · by_cases h2 : (s.Window.length : Int) > 6
    · simp [h1, h2]
    · by_cases h3 : ∀ x ∈ s.Window, 0 ≤ x ∧ x ≤ 3
      · have h4 : ¬ ∃ x ∈ s.Window, ¬ (0 ≤ x ∧ x ≤ 3) := fun ⟨x, hx, hh⟩ => hh (h3 x hx)
        rw [decide_eq_true h3, decide_eq_false h4]
        by_cases h5 : ((s.Last == -1) == ((s.Window.length : Int) == 0)) = true
        · simp [h1, h2, h5]
        · simp [h1, h2, h5]
      · have h4 : ∃ x ∈ s.Window, ¬ (0 ≤ x ∧ x ≤ 3) := Classical.byContradiction fun hh => h3 fun x hx => Classical.byContradiction fun h => hh ⟨x, hx, h⟩
        rw [decide_eq_false h3, decide_eq_true h4]
        simp [h1, h2]
  · simp [h1]
theorem loop_total {a p : Int} {w : List Int} (hl : (w.length : Int) ≤ maxI) (hp : 0 ≤ p ∧ p ≤ 1) : ∃ t, loopO (spec_l19Losses_s5 a w p) (0, 0) = some t ∧ True := by
  unfold maxI at hl
  refine loop_rule (fun i s => s.2 = (i : Int)) (fun _ => True) w.length ?_ rfl
  rintro i ⟨c, k⟩ hi hk
  simp only at hk
  subst hk
  have hw : IntKind.u64.wrap p = p := wu64 (by omega)
  simp only [spec_l19Losses_s5, decide_eq_true_eq]
  rcases Nat.lt_or_ge i w.length with h | h
  · left
    obtain ⟨x, hx, _⟩ := get_lt h
    rw [if_pos (by omega)]
    simp only [spec_l19Losses_u4, getI_nat, hx, Option.bind_some, spec_l19Lacks, hw]
    rw [if_neg (by omega), w64 (n := (i : Int) + 1) (by omega)]
    exact ⟨h, _, rfl, by simp⟩
  · right
    rw [if_neg (by omega)]
    exact ⟨_, rfl, trivial⟩
theorem steps_same {a p : Int} {w : List Int} (hp : 0 ≤ p ∧ p ≤ 1) : impl_Scheduler_lossesOn_s5 p w (w.length : Int) = spec_l19Losses_s5 a w p := by
  have hw : IntKind.u64.wrap p = p := wu64 (by omega)
  funext ⟨c, k⟩
  simp only [impl_Scheduler_lossesOn_s5, spec_l19Losses_s5, impl_Scheduler_lossesOn_u4, spec_l19Losses_u4, spec_l19Lacks, hw]
  have hn : ¬ p < 0 := by omega
  simp only [impl_Scheduler_lossesOn_u3, spec_l19Losses_u3, hn, if_false, Option.bind_some]
theorem lossesOn_same {s : SScheduler} {p : Int} (hl : (s.Window.length : Int) ≤ maxI) : ∃ r, spec_LossesOn s p = some r ∧ impl_LossesOn s p = some r := by
  obtain ⟨e, h1⟩ := schedFault_same hl
  obtain ⟨c, hc⟩ := Option.isSome_iff_exists.1 h1
  unfold spec_LossesOn impl_LossesOn
  rw [e, hc]
  simp only [Option.bind_some]
  rw [impl_first_eq (by simp [maxI])]
  simp only [Option.bind_some, spec_l1In_eq, impl_isSide, impl_inRange_eq, impl_codeIf_eq, firstL]
  by_cases h : c = 0
  · subst h
    by_cases hp : 0 ≤ p ∧ p ≤ 1
    · obtain ⟨t, ht, _⟩ := loop_total (a := s.Last) hl hp
      have hi : impl_Scheduler_lossesOn s p = some t := by unfold impl_Scheduler_lossesOn; rw [steps_same (a := s.Last) hp, ht]; rfl
      have hs : spec_l19Losses s p = some t := by unfold spec_l19Losses; rw [ht]; rfl
      simp [hp, hi, hs]
    · simp [hp]
  · simp [h]
theorem fault_range {s : SScheduler} (hl : (s.Window.length : Int) ≤ maxI) (h : spec_SchedulerFault s = some 0) : ∀ x ∈ s.Window, 0 ≤ x ∧ x ≤ 3 := by
  unfold spec_SchedulerFault at h
  rw [spec_l1All_eq hl] at h
  by_cases h3 : ∀ x ∈ s.Window, 0 ≤ x ∧ x ≤ 3
  · exact h3
  · simp only [Option.bind_some, decide_eq_false h3] at h
    split at h
    · split at h <;> simp at h
    · simp at h
theorem losses_same {a p : Int} {w : List Int} (hl : (w.length : Int) ≤ maxI) (hp : 0 ≤ p ∧ p ≤ 1) : ∃ t, spec_l19Losses ⟨a, w⟩ p = some t ∧ impl_Scheduler_lossesOn ⟨a, w⟩ p = some t := by
  obtain ⟨t, ht, _⟩ := loop_total (a := a) hl hp
  exact ⟨t, by unfold spec_l19Losses; simp only []; rw [ht]; rfl, by unfold impl_Scheduler_lossesOn; simp only []; rw [steps_same (a := a) hp, ht]; rfl⟩
theorem plan_same {s : SScheduler} (hl : (s.Window.length : Int) ≤ maxI) (hr : ∀ x ∈ s.Window, 0 ≤ x ∧ x ≤ 3) : ∃ r, spec_l19Plan s = some r ∧ impl_Scheduler_plan s = some r := by
  obtain ⟨a, w⟩ := s
  simp only at hl hr
  obtain ⟨t0, h0, k0⟩ := losses_same (a := a) (p := 0) hl (by omega)
  obtain ⟨t1, h1, k1⟩ := losses_same (a := a) (p := 1) hl (by omega)
  unfold maxI at hl
  unfold spec_l19Plan impl_Scheduler_plan
  simp only [impl_Scheduler_plan_u1, h0, h1, k0, k1, Option.bind_some]
  rcases Nat.eq_zero_or_pos w.length with hz | hz
  · rw [hz]
    simp [spec_l19Plan_u7, impl_Scheduler_plan_u9, w64, spec_l19Plan_u2, spec_l19Plan_u1, impl_Scheduler_plan_u3, impl_Scheduler_plan_u2, spec_l19Plan_u6, spec_l19Plan_u5, spec_l19Plan_u4, spec_l19Plan_u3, impl_Scheduler_plan_u7, impl_Scheduler_plan_u6, impl_Scheduler_plan_u5, impl_Scheduler_plan_u4]
  · obtain ⟨k, hk⟩ : ∃ k, w.length = k + 1 := ⟨w.length - 1, by omega⟩
    obtain ⟨x, hx, hm⟩ := get_lt (l := w) (i := k) (by omega)
    have e : IntKind.i64.wrap ((w.length : Int) - 1) = (k : Int) := by rw [w64 (by omega)]; omega
    have d1 : decide ((w.length : Int) > 0) = true := decide_eq_true (by omega)
    have d2 : decide ((k : Int) ≥ 0) = true := decide_eq_true (by omega)
    have hx2 : x = 0 ∨ x = 1 ∨ x = 2 ∨ x = 3 := by have := hr x hm; omega
    have b0 : spec_l19Lacks x 0 = some ((IntKind.i64.wrap ((BitVec.ofInt IntKind.i64.bits x &&& BitVec.ofInt IntKind.i64.bits 1).toNat)) == 0) := by rcases hx2 with rfl | rfl | rfl | rfl <;> decide
    have b1 : spec_l19Lacks x 1 = some ((IntKind.i64.wrap ((BitVec.ofInt IntKind.i64.bits x &&& BitVec.ofInt IntKind.i64.bits 2).toNat)) == 0) := by rcases hx2 with rfl | rfl | rfl | rfl <;> decide
    simp only [spec_l19Plan_u7, impl_Scheduler_plan_u9, impl_Scheduler_plan_u8, e, d1, d2, if_true, getI_nat, hx, Option.bind_some, b0, b1]
    refine ⟨_, rfl, ?_⟩
    simp only [spec_l19Plan_u2, spec_l19Plan_u1, impl_Scheduler_plan_u3, impl_Scheduler_plan_u2, spec_l19Plan_u6, spec_l19Plan_u5, spec_l19Plan_u4, spec_l19Plan_u3, impl_Scheduler_plan_u7, impl_Scheduler_plan_u6, impl_Scheduler_plan_u5, impl_Scheduler_plan_u4]
    rfl
theorem planOf_same {s : SScheduler} (hl : (s.Window.length : Int) ≤ maxI) : ∃ r, spec_PlanOf s = some r ∧ impl_PlanOf s = some r := by
  obtain ⟨e, h1⟩ := schedFault_same hl
  obtain ⟨c, hc⟩ := Option.isSome_iff_exists.1 h1
  unfold spec_PlanOf impl_PlanOf
  rw [e, hc]
  by_cases h : c = 0
  · subst h
    obtain ⟨r, q1, q2⟩ := plan_same hl (fault_range hl hc)
    simp [q1, q2]
  · simp [h]
theorem cutI_eq {n : Nat} {l h : Int} (h1 : 0 ≤ l) (h2 : l ≤ h) (h3 : h ≤ n) : cutI n l h = some (l.toNat, h.toNat) := by
  unfold cutI; rw [if_pos ⟨by omega, h3⟩, if_pos ⟨h1, by omega⟩]
def takeW (w : List Int) (g : Int) : List Int := if w.length = 6 then (w ++ [g]).drop 1 else w ++ [g]
theorem takeW_len {w : List Int} {g : Int} (h : w.length ≤ 6) : (takeW w g).length ≤ 6 ∧ 0 < (takeW w g).length := by
  unfold takeW; split <;> simp <;> omega
theorem clone64 {l : List Int} (h : (l.length : Int) ≤ 17592186044416) : slices_Clone_int64 l = some l := by
  unfold slices_Clone_int64; rw [if_pos (okApp_8 (by omega))]
theorem ints64 {l : List Int} (h : (l.length : Int) ≤ 17592186044416) : spec_l1Ints l = some l := by
  unfold spec_l1Ints; rw [if_pos (okApp_8 (by omega))]
theorem take_impl {s : SScheduler} {r : SReport} (h : s.Window.length ≤ 6) : impl_Scheduler_take s r = some (if r.Number ≤ s.Last then (⟨0, []⟩, 9) else (⟨r.Number, takeW s.Window r.Got⟩, 0)) := by
  unfold impl_Scheduler_take
  simp only [decide_eq_true_eq]
  split
  · rfl
  · simp only [impl_Scheduler_take_u1]
    rw [clone64 (by omega)]
    simp only [Option.bind_some]
    rw [if_pos (okApp_8 (by simp; omega))]
    simp only [Option.bind_some]
    have hl : (s.Window ++ [r.Got]).length = s.Window.length + 1 := by simp
    rw [hl, w64 (by omega)]
    rcases Nat.lt_or_ge s.Window.length 6 with h6 | h6
    · rw [if_neg (by omega), cutI_eq (by omega) (by omega) (by omega)]
      simp only [Option.bind_some, Int.toNat_zero, List.drop_zero, Int.toNat_natCast, Nat.sub_zero]
      rw [← hl, List.take_length, clone64 (by simp; omega)]
      simp only [Option.bind_some, takeW]
      rw [if_neg (by omega)]
    · have : s.Window.length = 6 := by omega
      rw [this, if_pos (by omega), cutI_eq (by omega) (by omega) (by omega)]
      simp only [Option.bind_some]
      have e : (List.take (((6 + 1 : Nat) : Int).toNat - (((6 + 1 : Nat) : Int) - 6).toNat) (List.drop (((6 + 1 : Nat) : Int) - 6).toNat (s.Window ++ [r.Got]))) = (s.Window ++ [r.Got]).drop 1 := by
        have h1 : (((6 + 1 : Nat) : Int) - 6).toNat = 1 := by decide
        have h2 : (((6 + 1 : Nat) : Int).toNat - 1) = 6 := by decide
        rw [h1, h2]
        exact List.take_of_length_le (by simp; omega)
      rw [e, clone64 (by simp; omega)]
      simp only [Option.bind_some, takeW]
      rw [if_pos this]
theorem take_spec {s : SScheduler} {r : SReport} (h : s.Window.length ≤ 6) : spec_l19Take s r = some (if r.Number ≤ s.Last then (⟨0, []⟩, 9) else (⟨r.Number, takeW s.Window r.Got⟩, 0)) := by
  unfold spec_l19Take
  simp only [decide_eq_true_eq]
  split
  · rfl
  · simp only [spec_l19Take_u1]
    rw [ints64 (by omega)]
    simp only [Option.bind_some]
    rw [if_pos (okApp_8 (by simp; omega))]
    simp only [Option.bind_some, spec_l19Take_u2, decide_eq_true_eq]
    have hl : (s.Window ++ [r.Got]).length = s.Window.length + 1 := by simp
    rw [hl]
    rcases Nat.lt_or_ge s.Window.length 6 with h6 | h6
    · rw [if_neg (by omega)]
      simp only [Option.bind_some, takeW]
      rw [if_neg (by omega)]
    · have : s.Window.length = 6 := by omega
      rw [this, if_pos (by omega), cutI_eq (by omega) (by omega) (by omega)]
      simp only [Option.bind_some]
      have e : (List.take (((6 + 1 : Nat) : Int).toNat - (1 : Int).toNat) (List.drop (1 : Int).toNat (s.Window ++ [r.Got]))) = (s.Window ++ [r.Got]).drop 1 := by
        have h1 : (1 : Int).toNat = 1 := by decide
        have h2 : (((6 + 1 : Nat) : Int).toNat - 1) = 6 := by decide
        rw [h1, h2]
        exact List.take_of_length_le (by simp; omega)
      rw [e, ints64 (by simp; omega)]
      simp only [Option.bind_some, takeW]
      rw [if_pos this]
theorem fault_len {s : SScheduler} (hl : (s.Window.length : Int) ≤ maxI) (h : spec_SchedulerFault s = some 0) : s.Window.length ≤ 6 := by
  unfold spec_SchedulerFault at h
  simp only [decide_eq_true_eq] at h
  split at h
  · split at h
    · simp at h
    · omega
  · simp at h
theorem reportFault_eq (r : SReport) : spec_ReportFault r = (if (0 ≤ r.Number ∧ r.Number ≤ 9999) ∧ 0 ≤ r.Got ∧ r.Got ≤ 3 then 0 else 3) ∧ impl_ReportFault r = (if (0 ≤ r.Number ∧ r.Number ≤ 9999) ∧ 0 ≤ r.Got ∧ r.Got ≤ 3 then 0 else 3) := by
  simp only [spec_ReportFault, spec_ReportFault_u1, impl_ReportFault, impl_ReportFault_u1, impl_isNumber, impl_isGot, spec_l14Number, spec_l1In_eq, impl_inRange_eq, impl_codeIf_eq, decide_eq_true_eq]
  by_cases h1 : 0 ≤ r.Number ∧ r.Number ≤ 9999 <;> by_cases h2 : 0 ≤ r.Got ∧ r.Got ≤ 3 <;> simp [h1, h2]
/-- What a report comes to. -/
def takeR (c : Int) (s : SScheduler) (r : SReport) : SSchedulerResult :=
  if c ≠ 0 then ⟨c, ⟨0, []⟩⟩ else if spec_ReportFault r ≠ 0 then ⟨3, ⟨0, []⟩⟩ else if r.Number ≤ s.Last then ⟨9, ⟨0, []⟩⟩ else ⟨0, ⟨r.Number, takeW s.Window r.Got⟩⟩
theorem takeReport_same {s : SScheduler} {r : SReport} (hl : (s.Window.length : Int) ≤ maxI) : ∃ c, spec_SchedulerFault s = some c ∧ impl_SchedulerFault s = some c ∧ spec_TakeReport s r = some (takeR c s r) ∧ impl_TakeReport s r = some (takeR c s r) := by
  obtain ⟨e, h1⟩ := schedFault_same hl
  obtain ⟨c, hc⟩ := Option.isSome_iff_exists.1 h1
  rw [hc] at e
  refine ⟨c, hc, e, ?_, ?_⟩
  · unfold spec_TakeReport takeR
    rw [hc]
    simp only [Option.bind_some, bne_iff_ne]
    by_cases h : c = 0
    · subst h
      simp only [ne_eq, not_true, if_false]
      by_cases h2 : spec_ReportFault r = 0
      · simp only [h2, not_true, if_false]
        rw [take_spec (fault_len hl hc)]
        simp only [Option.bind_some]
        split <;> rfl
      · simp only [h2, not_false_eq_true, if_true]
        have := (reportFault_eq r).1
        split at this
        · exact absurd this h2
        · rw [this]
    · simp [h]
  · unfold impl_TakeReport takeR
    rw [e]
    simp only [Option.bind_some]
    rw [impl_first_eq (by simp [maxI])]
    have er : impl_ReportFault r = spec_ReportFault r := (reportFault_eq r).2.trans (reportFault_eq r).1.symm
    simp only [Option.bind_some, firstL, er, bne_iff_ne]
    by_cases h : c = 0
    · subst h
      simp only [ne_eq, not_true, if_false]
      by_cases h2 : spec_ReportFault r = 0
      · simp only [h2, not_true, if_false]
        rw [take_impl (fault_len hl hc)]
        simp only [Option.bind_some]
        split <;> rfl
      · simp only [h2, not_false_eq_true, if_true]
        have := (reportFault_eq r).1
        split at this
        · exact absurd this h2
        · rw [this]
    · simp [h]
theorem takeR_len {c : Int} {s : SScheduler} {r : SReport} (hl : (s.Window.length : Int) ≤ maxI) (hc : spec_SchedulerFault s = some c) : (takeR c s r).Scheduler.Window.length ≤ 6 := by
  unfold takeR
  split
  · simp
  · split
    · simp
    · split
      · simp
      · rename_i h _ _
        simp only [ne_eq, Classical.not_not] at h
        subst h
        exact (takeW_len (fault_len hl hc)).1
theorem tmod_nn {a b : Int} (ha : 0 ≤ a) (hb : 0 < b) : 0 ≤ a.tmod b ∧ a.tmod b < b := by
  rw [Int.tmod_eq_emod_of_nonneg ha]
  exact ⟨Int.emod_nonneg _ (by omega), Int.emod_lt_of_pos _ hb⟩
def SrcOk (c : List Int) (s : Sl1Src) (k : Int) : Prop := s.Code = c ∧ 0 ≤ s.At ∧ s.At ≤ k
theorem get_mod {c : List Int} {a : Int} (hc : ∀ x ∈ c, 0 ≤ x ∧ x ≤ 255) (ha : 0 ≤ a) (hn : 0 < c.length) : ∃ x, getI c (a.tmod (c.length : Int)) = some x ∧ 0 ≤ x ∧ x ≤ 255 := by
  obtain ⟨h1, h2⟩ := tmod_nn ha (b := (c.length : Int)) (by omega)
  obtain ⟨x, hx, hm⟩ := get_lt (l := c) (i := (a.tmod (c.length : Int)).toNat) (by omega)
  exact ⟨x, by unfold getI; rw [if_pos h1, hx], hc x hm⟩
theorem next_ok {c : List Int} {s : Sl1Src} {k p : Int} (hc : ∀ x ∈ c, 0 ≤ x ∧ x ≤ 255) (hl : (c.length : Int) ≤ 2000000) (hs : SrcOk c s k) (hk : k ≤ 1000000) (hp : 1 ≤ p ∧ p ≤ 100000000) :
    ∃ r, spec_l1Next s p = some (r, ⟨c, s.At + 1⟩) ∧ 0 ≤ r ∧ r < p := by
  obtain ⟨rfl, h0, h1⟩ := hs
  have e1 : IntKind.i64.wrap (s.At + 1) = s.At + 1 := w64 (by omega)
  have e2 : IntKind.i64.wrap (s.At + 1 - 1) = s.At := by rw [w64 (by omega)]; omega
  unfold spec_l1Next
  rw [if_neg (by simp; omega)]
  simp only [e1, e2]
  rcases Nat.eq_zero_or_pos s.Code.length with hz | hz
  · rw [if_pos (by simp [hz]), if_neg (by omega), w64 (by omega)]
    obtain ⟨q1, q2⟩ := tmod_nn (a := s.At * 7) (b := p) (by omega) (by omega)
    exact ⟨_, rfl, q1, q2⟩
  · have hne : ¬ (s.Code.length : Int) = 0 := by omega
    rw [if_neg (by simp; intro h; rw [h] at hz; simp at hz)]
    simp only [hne, if_false]
    obtain ⟨x, hx, hx0, hx1⟩ := get_mod hc h0 hz
    rw [hx]
    simp only [Option.bind_some]
    have hd : 0 ≤ s.At.tdiv (s.Code.length : Int) ∧ s.At.tdiv (s.Code.length : Int) ≤ s.At := by
      rw [Int.tdiv_eq_ediv_of_nonneg h0]
      exact ⟨Int.ediv_nonneg h0 (by omega), Int.ediv_le_self _ h0⟩
    generalize s.At.tdiv (s.Code.length : Int) = d at hd
    rw [w64 (n := x) (by omega), w64 (n := d) (by omega), w64 (n := d * 37) (by omega), w64 (n := x + d * 37) (by omega)]
    have u1 : ∃ v, spec_l1Next_u1 s.Code (s.At + 1) p s.At (s.Code.length : Int) (x + d * 37) (decide (p > 200)) = some v ∧ 0 ≤ v ∧ v ≤ 10000000000 := by
      unfold spec_l1Next_u1
      split
      · rw [w64 (n := s.At + 1) (by omega)]
        obtain ⟨y, hy, hy0, hy1⟩ := get_mod (a := s.At + 1) hc (by omega) hz
        rw [hy]
        simp only [Option.bind_some]
        rw [w64 (n := y) (by omega), w64 (n := y * 13) (by omega), w64 (n := (x + d * 37) * 251) (by omega), w64 (n := (x + d * 37) * 251 + y * 13) (by omega), w64 (n := (x + d * 37) * 251 + y * 13 + s.At) (by omega)]
        exact ⟨_, rfl, by omega, by omega⟩
      · exact ⟨_, rfl, by omega, by omega⟩
    obtain ⟨v, hv, hv0, hv1⟩ := u1
    rw [hv]
    simp only [Option.bind_some]
    have u2 : ∃ v', spec_l1Next_u2 s.Code (s.At + 1) p s.At (s.Code.length : Int) v (decide (p > 60000)) = some v' ∧ 0 ≤ v' := by
      unfold spec_l1Next_u2
      split
      · rw [w64 (n := s.At + 2) (by omega)]
        obtain ⟨y, hy, hy0, hy1⟩ := get_mod (a := s.At + 2) hc (by omega) hz
        rw [hy]
        simp only [Option.bind_some]
        rw [w64 (n := y) (by omega), w64 (n := v * 257) (by omega), w64 (n := v * 257 + y) (by omega)]
        exact ⟨_, rfl, by omega⟩
      · exact ⟨_, rfl, hv0⟩
    obtain ⟨v', hv', hv'0⟩ := u2
    rw [hv']
    simp only [Option.bind_some]
    rw [if_neg (by omega)]
    obtain ⟨q1, q2⟩ := tmod_nn (a := v') (b := p) hv'0 (by omega)
    exact ⟨_, rfl, q1, q2⟩
theorem pick_ok {c : List Int} {s : Sl1Src} {k : Int} {l : List Int} (hc : ∀ x ∈ c, 0 ≤ x ∧ x ≤ 255) (hl : (c.length : Int) ≤ 2000000) (hs : SrcOk c s k) (hk : k ≤ 1000000) (hn : 0 < l.length ∧ l.length ≤ 1000000) :
    ∃ r s', spec_l1Pick s l = some (r, s') ∧ r ∈ l ∧ SrcOk c s' (k + 1) := by
  unfold spec_l1Pick
  obtain ⟨r, h1, h2, h3⟩ := next_ok (p := (l.length : Int)) hc hl hs hk (by omega)
  obtain ⟨x, hx, hm⟩ := get_lt (l := l) (i := r.toNat) (by omega)
  rw [h1]
  obtain ⟨_, a1, a2⟩ := hs
  refine ⟨x, ⟨c, s.At + 1⟩, ?_, hm, rfl, by (first | omega | (simp only []; omega)), by (first | omega | (simp only []; omega))⟩
  simp only [Option.bind_some]
  unfold getI
  rw [if_pos h2, hx]; rfl
theorem source_ok {c : List Int} : SrcOk c (spec_l1Source c) 0 := by unfold SrcOk spec_l1Source; simp
theorem next_ok2 {c : List Int} {s : Sl1Src} {k p : Int} (hc : ∀ x ∈ c, 0 ≤ x ∧ x ≤ 255) (hl : (c.length : Int) ≤ 2000000) (hs : SrcOk c s k) (hk : k ≤ 1000000) (hp : 1 ≤ p ∧ p ≤ 100000000) :
    ∃ r s', spec_l1Next s p = some (r, s') ∧ 0 ≤ r ∧ r < p ∧ SrcOk c s' (k + 1) := by
  obtain ⟨r, h1, h2, h3⟩ := next_ok hc hl hs hk hp
  obtain ⟨_, a1, a2⟩ := hs
  exact ⟨r, _, h1, h2, h3, rfl, by (first | omega | (simp only []; omega)), by (first | omega | (simp only []; omega))⟩
theorem SrcOk.mono {c : List Int} {s : Sl1Src} {k m : Int} (h : SrcOk c s k) (hm : k ≤ m) : SrcOk c s m := ⟨h.1, h.2.1, by have := h.2.2; omega⟩
theorem src_eta (t : Sl1Src) : Sl1Src.mk t.Code t.At = t := rfl
theorem drawSched_ok {c : List Int} {s : Sl1Src} {k : Int} (hc : ∀ x ∈ c, 0 ≤ x ∧ x ≤ 255) (hl : (c.length : Int) ≤ 2000000) (hs : SrcOk c s k) (hk : k ≤ 999900) :
    ∃ x s', spec_l19Draw s = some (x, s') ∧ x.Window.length ≤ 6 ∧ -1 ≤ x.Last ∧ x.Last ≤ 40 ∧ SrcOk c s' (k + 32) := by
  unfold spec_l19Draw
  obtain ⟨r1, s1, h1, a1, b1, k1⟩ := next_ok2 (p := 4) hc hl hs (by omega) (by omega)
  obtain ⟨r2, s2, h2, a2, b2, k2⟩ := next_ok2 (p := 10) hc hl k1 (by omega) (by omega)
  simp only [h1, h2, Option.bind_some]
  obtain ⟨n, rfl⟩ : ∃ n : Nat, r2 = n := ⟨r2.toNat, by omega⟩
  obtain ⟨t, q1, q2, q3, q4, q5⟩ := loop_rule (step := spec_l19Draw_s7 r1) (fun i u => u.2.2.2.2 = (n : Int) - i ∧ u.2.1.length ≤ 6 ∧ -1 ≤ u.1 ∧ u.1 ≤ 3 * i ∧ SrcOk c ⟨u.2.2.1, u.2.2.2.1⟩ (k + 2 + 3 * i))
      (fun t => t.2.1.length ≤ 6 ∧ -1 ≤ t.1 ∧ t.1 ≤ 40 ∧ SrcOk c ⟨t.2.2.1, t.2.2.2⟩ (k + 32)) n (by
    rintro i ⟨la, w, co, at_, cnt⟩ hi ⟨g1, g2, g3, g4, g5⟩
    simp only at g1 g2 g3 g4 g5
    subst g1
    simp only [spec_l19Draw_s7, decide_eq_true_eq]
    rcases Nat.lt_or_ge i n with hh | hh
    · left
      rw [if_pos (by omega)]
      obtain ⟨x3, s3, h3, _, k3⟩ := pick_ok (l := [3, 3, 3, 2, 1, 0]) hc hl g5 (by omega) (by simp)
      rw [h3]
      simp only [Option.bind_some]
      have h5 : ∃ v, spec_l19Draw_u5 la w s3.Code s3.At r1 ((n : Int) - i) x3 = some v ∧ SrcOk c ⟨v.1, v.2.1⟩ (k + 2 + 3 * i + 2) := by
        unfold spec_l19Draw_u5 spec_l19Draw_u4
        simp only [src_eta]
        obtain ⟨y1, s4, e4, _, k4⟩ := pick_ok (l := [2, 2, 2, 0]) hc hl k3 (by omega) (by simp)
        obtain ⟨y2, s5, e5, _, k5⟩ := pick_ok (l := [1, 1, 1, 0]) hc hl k3 (by omega) (by simp)
        have m3 := k3.mono (m := k + 2 + 3 * i + 2) (by omega)
        have m4 := k4.mono (m := k + 2 + 3 * i + 2) (by omega)
        have m5 := k5.mono (m := k + 2 + 3 * i + 2) (by omega)
        simp only [e4, e5, Option.bind_some]
        split
        · exact ⟨_, rfl, m4⟩
        · split
          · exact ⟨_, rfl, m5⟩
          · split
            · exact ⟨_, rfl, m3⟩
            · exact ⟨_, rfl, m3⟩
      obtain ⟨v, hv, kv⟩ := h5
      rw [hv]
      simp only [Option.bind_some, spec_l19Draw_u6]
      obtain ⟨r6, s6, h6, a6, b6, k6⟩ := next_ok2 (p := 3) hc hl kv (by omega) (by omega)
      rw [h6]
      simp only [Option.bind_some]
      rw [take_spec (by simpa using g2), w64 (n := la + 1) (by omega), w64 (by omega)]
      simp only [Option.bind_some]
      rw [if_neg (by omega), w64 (by omega)]
      refine ⟨hh, _, rfl, by simp only []; omega, (takeW_len g2).1, by simp only []; omega, by simp only []; omega, ?_⟩
      simp only [src_eta]
      exact k6.mono (by omega)
    · right
      obtain rfl : i = n := by omega
      rw [if_neg (by omega)]
      exact ⟨_, rfl, g2, g3, by simp only []; omega, g5.mono (by omega)⟩) (s := (-1, [], s2.Code, s2.At, (n : Int))) ⟨by simp, by simp, by simp, by simp, by simp only [src_eta]; exact k2.mono (by omega)⟩
  rw [q1]
  exact ⟨_, _, rfl, q2, q3, q4, q5⟩
theorem bentSched_ok {c : List Int} {s : Sl1Src} {k : Int} (hc : ∀ x ∈ c, 0 ≤ x ∧ x ≤ 255) (hl : (c.length : Int) ≤ 2000000) (hs : SrcOk c s k) (hk : k ≤ 999900) :
    ∃ x s', spec_l19Bent s = some (x, s') ∧ x.Window.length ≤ 7 ∧ -2 ≤ x.Last ∧ x.Last ≤ 10000 ∧ SrcOk c s' (k + 34) := by
  unfold spec_l19Bent
  obtain ⟨x, s1, h1, a1, b1, c1, k1⟩ := drawSched_ok hc hl hs hk
  obtain ⟨r2, s2, h2, a2, b2, k2⟩ := next_ok2 (p := 14) hc hl k1 (by omega) (by omega)
  simp only [h1, h2, Option.bind_some, spec_l19Bent_u3, spec_l19Bent_u2, spec_l19Bent_u1, src_eta]
  obtain ⟨y1, s4, e4, m4, k4⟩ := pick_ok (l := [(-2), (-1), 10000, 9999]) hc hl k2 (by omega) (by simp)
  obtain ⟨y2, s5, e5, m5, k5⟩ := pick_ok (l := [3, 4, (-1)]) hc hl k2 (by omega) (by simp)
  have m3 := k2.mono (m := k + 34) (by omega)
  have m6 := k4.mono (m := k + 34) (by omega)
  have m7 := k5.mono (m := k + 34) (by omega)
  simp only [e4, e5, Option.bind_some]
  by_cases z0 : (r2 == 0) = true
  · simp only [z0, if_true, Option.bind_some]
    have : y1 = -2 ∨ y1 = -1 ∨ y1 = 10000 ∨ y1 = 9999 := by simpa using m4
    exact ⟨_, _, rfl, by simp only []; omega, by simp only []; omega, by simp only []; omega, m6⟩
  · simp only [z0, Bool.false_eq_true, if_false]
    by_cases z1 : (r2 == 1) = true
    · simp only [z1, if_true]
      rw [if_pos (okApp_8 (by simp; omega))]
      simp only [Option.bind_some]
      exact ⟨_, _, rfl, by simp; omega, by simp only []; omega, by simp only []; omega, m7⟩
    · simp only [z1, Bool.false_eq_true, if_false]
      by_cases z2 : (r2 == 2) = true
      · simp only [z2, if_true, Option.bind_some]
        exact ⟨_, _, rfl, by simp, by simp only []; omega, by simp only []; omega, m3⟩
      · simp only [z2, Bool.false_eq_true, if_false, Option.bind_some]
        exact ⟨_, _, rfl, by simp only []; omega, by simp only []; omega, by simp only []; omega, m3⟩
def lacksB (p x : Int) : Bool := (IntKind.i64.wrap ((BitVec.ofInt IntKind.i64.bits (x.fdiv (2 ^ (min p.toNat IntKind.i64.bits))) &&& BitVec.ofInt IntKind.i64.bits 1).toNat)) == 0
theorem lossesOn_count {a p : Int} {w : List Int} (hl : (w.length : Int) ≤ maxI) (hp : 0 ≤ p ∧ p ≤ 1) : impl_Scheduler_lossesOn ⟨a, w⟩ p = some ((w.countP (lacksB p) : Nat) : Int) := by
  unfold maxI at hl
  unfold impl_Scheduler_lossesOn
  obtain ⟨t, h1, rfl⟩ := loop_rule (step := impl_Scheduler_lossesOn_s5 p w (w.length : Int)) (fun i s => s = ((((w.take i).countP (lacksB p) : Nat) : Int), (i : Int))) (fun t => t = ((w.countP (lacksB p) : Nat) : Int)) w.length (by
    rintro i s hi rfl
    simp only [impl_Scheduler_lossesOn_s5, decide_eq_true_eq]
    rcases Nat.lt_or_ge i w.length with h | h
    · left
      obtain ⟨x, hx, _⟩ := get_lt h
      have hle : (w.take i).countP (lacksB p) ≤ i := by
        have := List.countP_le_length (p := lacksB p) (l := w.take i)
        simp only [List.length_take] at this; omega
      rw [if_pos (by omega)]
      simp only [impl_Scheduler_lossesOn_u4, impl_Scheduler_lossesOn_u3, getI_nat, hx, Option.bind_some]
      rw [if_neg (by omega), w64 (n := (i : Int) + 1) (by omega), w64 (n := (((w.take i).countP (lacksB p) : Nat) : Int) + 1) (by omega)]
      refine ⟨h, _, rfl, ?_⟩
      have e : w.take (i + 1) = w.take i ++ [x] := by rw [List.take_add_one, hx]; rfl
      rw [e, List.countP_append, List.countP_singleton]
      have : (IntKind.i64.wrap ((BitVec.ofInt IntKind.i64.bits (x.fdiv (2 ^ (min p.toNat IntKind.i64.bits))) &&& BitVec.ofInt IntKind.i64.bits 1).toNat) == 0) = lacksB p x := rfl
      rw [this]
      cases lacksB p x <;> simp
    · right
      obtain rfl : i = w.length := by omega
      rw [if_neg (by omega)]
      exact ⟨_, rfl, by simp⟩) (s := (0, 0)) (by simp)
  simp only [h1, Option.bind_some]
theorem lossesOn_zero {s : SScheduler} {p : Int} (hl : (s.Window.length : Int) ≤ maxI) (hp : 0 ≤ p ∧ p ≤ 1) (h : spec_SchedulerFault s = some 0) : impl_LossesOn s p = some ⟨0, (s.Window.countP (lacksB p) : Nat)⟩ := by
  obtain ⟨e, _⟩ := schedFault_same hl
  unfold impl_LossesOn
  rw [e, h]
  simp only [Option.bind_some]
  rw [impl_first_eq (by simp [maxI])]
  have : impl_Scheduler_lossesOn s p = some ((s.Window.countP (lacksB p) : Nat) : Int) := lossesOn_count (a := s.Last) hl hp
  simp [impl_isSide, impl_inRange_eq, impl_codeIf_eq, firstL, hp, this]
theorem takeW_count {p : Int} {w : List Int} {g : Int} : (takeW w g).countP (lacksB p) ≤ w.countP (lacksB p) + 1 := by
  have h1 : (w ++ [g]).countP (lacksB p) ≤ w.countP (lacksB p) + 1 := by
    rw [List.countP_append]
    have := List.countP_le_length (p := lacksB p) (l := [g])
    simp only [List.length_singleton] at this
    omega
  unfold takeW
  split
  · exact Nat.le_trans ((List.drop_sublist 1 _).countP_le) h1
  · exact h1
theorem fault_cond {s : SScheduler} (hl : (s.Window.length : Int) ≤ maxI) : spec_SchedulerFault s = some 0 ↔ (-1 ≤ s.Last ∧ s.Last ≤ 9999) ∧ s.Window.length ≤ 6 ∧ (∀ x ∈ s.Window, 0 ≤ x ∧ x ≤ 3) ∧ (s.Last = -1 ↔ s.Window.length = 0) := by
  unfold spec_SchedulerFault
  rw [spec_l1All_eq hl, spec_l1In_eq]
  simp only [Option.bind_some, decide_eq_true_eq]
  by_cases h1 : -1 ≤ s.Last ∧ s.Last ≤ 9999
  · by_cases h2 : (s.Window.length : Int) > 6
    · simp [h1, h2]; omega
    · by_cases h3 : ∀ x ∈ s.Window, 0 ≤ x ∧ x ≤ 3
      · rw [if_pos h1, if_neg h2, if_pos h3]
        have e : ((s.Last == -1) == ((s.Window.length : Int) == 0)) = true ↔ (s.Last = -1 ↔ s.Window.length = 0) := by
          rw [beq_iff_eq, Bool.eq_iff_iff]
          simp only [beq_iff_eq]
          omega
        by_cases h5 : ((s.Last == -1) == ((s.Window.length : Int) == 0)) = true
        · rw [if_pos h5]
          exact ⟨fun _ => ⟨h1, by omega, h3, e.1 h5⟩, fun _ => rfl⟩
        · rw [if_neg h5]
          exact ⟨fun h => by simp at h, fun h => absurd (e.2 h.2.2.2) h5⟩
      · rw [if_pos h1, if_neg h2, if_neg h3]
        exact ⟨fun h => by simp at h, fun h => absurd h.2.2.1 h3⟩
  · rw [if_neg h1]
    exact ⟨fun h => by simp at h, fun h => absurd h.1 h1⟩
theorem takeW_mem {w : List Int} {g x : Int} (h : x ∈ takeW w g) : x ∈ w ∨ x = g := by
  unfold takeW at h
  split at h
  · have := List.mem_of_mem_drop h
    simpa using this
  · simpa using h
theorem takeW_last {w : List Int} {g : Int} (h : w.length ≤ 6) : (takeW w g)[(takeW w g).length - 1]? = some g := by
  unfold takeW
  split
  · rename_i h6
    obtain ⟨x, w', rfl⟩ := List.exists_cons_of_ne_nil (l := w) (by rintro rfl; simp at h6)
    simp
  · simp
/-- A scheduler stays right. -/
theorem take_fault {s : SScheduler} {r : SReport} (hl : (s.Window.length : Int) ≤ maxI) (h : spec_SchedulerFault s = some 0) (h2 : spec_ReportFault r = 0) (h3 : s.Last < r.Number) : spec_SchedulerFault ⟨r.Number, takeW s.Window r.Got⟩ = some 0 := by
  obtain ⟨a1, a2, a3, a4⟩ := (fault_cond hl).1 h
  have hr := (reportFault_eq r).1
  rw [h2] at hr
  split at hr
  · rename_i hr'
    obtain ⟨b1, b2⟩ := takeW_len (g := r.Got) a2
    refine (fault_cond (by simp only []; unfold maxI; omega)).2 ⟨by simp only []; omega, b1, fun x hx => ?_, by simp only []; omega⟩
    rcases takeW_mem hx with hx | rfl
    · exact a3 x hx
    · exact hr'.2
  · omega
theorem plan_val {L : Int} {w : List Int} (hl : (w.length : Int) ≤ 6) : ∃ p, impl_Scheduler_plan ⟨L, w⟩ = some p ∧ (0 ≤ p.Spread ∧ p.Spread ≤ 2) ∧ (1 ≤ p.Paths ∧ p.Paths ≤ 3) ∧ (L.tmod 4 = 3 → p.Paths = 3) := by
  have hm : (w.length : Int) ≤ maxI := by unfold maxI; omega
  unfold impl_Scheduler_plan
  simp only [impl_Scheduler_plan_u1, lossesOn_count (a := L) (p := 0) hm (by omega), lossesOn_count (a := L) (p := 1) hm (by omega), Option.bind_some]
  generalize (w.countP (lacksB 0) : Int) = a
  generalize (w.countP (lacksB 1) : Int) = b
  have h9 : ∀ m k, ∃ v, impl_Scheduler_plan_u9 L w m k (IntKind.i64.wrap ((w.length : Int) - 1)) (decide (IntKind.i64.wrap ((w.length : Int) - 1) ≥ 0)) = some v := by
    intro m k
    rw [w64 (by omega)]
    unfold impl_Scheduler_plan_u9
    simp only [decide_eq_true_eq]
    split
    · rename_i h
      obtain ⟨n, hn⟩ : ∃ n, w.length = n + 1 := ⟨w.length - 1, by omega⟩
      obtain ⟨x, hx, _⟩ := get_lt (l := w) (i := n) (by omega)
      have e : (w.length : Int) - 1 = (n : Int) := by omega
      simp only [impl_Scheduler_plan_u8, e, getI_nat, hx, Option.bind_some]
      exact ⟨_, rfl⟩
    · exact ⟨_, rfl⟩
  obtain ⟨v, hv⟩ := h9 (impl_Scheduler_plan_u3 L w a b) (impl_Scheduler_plan_u7 L w (impl_Scheduler_plan_u3 L w a b) a b)
  simp only [hv, Option.bind_some]
  refine ⟨_, rfl, ?_, ?_, ?_⟩
  · simp only [impl_Scheduler_plan_u3, impl_Scheduler_plan_u2]
    split
    · omega
    · split <;> omega
  · simp only [impl_Scheduler_plan_u7, impl_Scheduler_plan_u6]
    split
    · omega
    · split
      · omega
      · split <;> omega
  · intro h
    simp [impl_Scheduler_plan_u7, impl_Scheduler_plan_u6, h]
theorem planFault_ok {p : SPlan} (h1 : 0 ≤ p.Spread ∧ p.Spread ≤ 2) (h2 : 1 ≤ p.Paths ∧ p.Paths ≤ 3) : impl_PlanFault p = 0 := by
  simp [impl_PlanFault, impl_PlanFault_u1, impl_isSpread, impl_inRange_eq, impl_codeIf_eq, h1, h2]
theorem plan_three {L : Int} : impl_Scheduler_plan ⟨L, List.replicate 6 3⟩ = some ⟨2, 3, false, false⟩ := by
  unfold impl_Scheduler_plan
  have c0 : (List.replicate 6 (3 : Int)).countP (lacksB 0) = 0 := by decide
  have c1 : (List.replicate 6 (3 : Int)).countP (lacksB 1) = 0 := by decide
  simp only [impl_Scheduler_plan_u1, lossesOn_count (a := L) (p := 0) (w := List.replicate 6 3) (by simp [maxI]) (by omega), lossesOn_count (a := L) (p := 1) (w := List.replicate 6 3) (by simp [maxI]) (by omega), Option.bind_some, c0, c1]
  have e3 : impl_Scheduler_plan_u3 L (List.replicate 6 3) ((0 : Nat) : Int) ((0 : Nat) : Int) = 2 := by
    simp [impl_Scheduler_plan_u3, impl_Scheduler_plan_u2, w64]
  have e7 : impl_Scheduler_plan_u7 L (List.replicate 6 3) 2 ((0 : Nat) : Int) ((0 : Nat) : Int) = 3 := by
    simp [impl_Scheduler_plan_u7, impl_Scheduler_plan_u6, impl_Scheduler_plan_u4, impl_Scheduler_plan_u5]
  rw [e3, e7]
  have e9 : impl_Scheduler_plan_u9 L (List.replicate 6 3) 2 3 (IntKind.i64.wrap (((List.replicate 6 (3 : Int)).length : Int) - 1)) (decide (IntKind.i64.wrap (((List.replicate 6 (3 : Int)).length : Int) - 1) ≥ 0)) = some (false, false) := by
    have : IntKind.i64.wrap (((List.replicate 6 (3 : Int)).length : Int) - 1) = 5 := by decide
    rw [this]
    have g : getI (List.replicate 6 (3 : Int)) 5 = some 3 := by decide
    simp only [impl_Scheduler_plan_u9, impl_Scheduler_plan_u8, g, Option.bind_some]
    decide
  rw [e9]; rfl
theorem takeW_three {pre : List Int} {i : Nat} (hi : i < 6) (h : pre.length + i ≤ 6) : ∃ pre', takeW (pre ++ List.replicate i 3) 3 = pre' ++ List.replicate (i + 1) 3 ∧ pre'.length + (i + 1) ≤ 6 := by
  have e : pre ++ List.replicate i 3 ++ [3] = pre ++ List.replicate (i + 1) (3 : Int) := by rw [List.append_assoc, ← List.replicate_succ']
  unfold takeW
  split
  · rename_i hl
    simp at hl
    obtain ⟨x, q, rfl⟩ := List.exists_cons_of_ne_nil (l := pre) (by rintro rfl; simp at hl; omega)
    refine ⟨q, ?_, ?_⟩
    · rw [e]; simp
    · simp at hl; omega
  · rename_i hl
    simp at hl
    exact ⟨pre, e, by omega⟩
--REST0
theorem pure (c : List Int) (hc : (c.length : Int) ≤ maxI ∧ ∀ x ∈ c, WfI .u8 x) : laws_FnPlans c = some true := by
  unfold laws_FnPlans
  by_cases hb : laws_lwBig c = true
  · rw [if_pos hb]
  · rw [if_neg hb]
    have hl : (c.length : Int) ≤ 1048576 := by simp [laws_lwBig] at hb; omega
    have hc' : ∀ x ∈ c, 0 ≤ x ∧ x ≤ 255 := fun x hx => wfU8.1 (hc.2 x hx)
    obtain ⟨s, s1, hd, hw, hL1, hL2, _⟩ := bentSched_ok hc' (by omega) (source_ok (c := c)) (by omega)
    have hsl : (s.Window.length : Int) ≤ maxI := by unfold maxI; omega
    obtain ⟨r, p1, p2⟩ := planOf_same hsl
    obtain ⟨e, h1⟩ := schedFault_same hsl
    obtain ⟨f, hf⟩ := Option.isSome_iff_exists.1 h1
    have eS : ∀ (t : SScheduler), SScheduler.mk t.Last t.Window = t := fun _ => rfl
    have eP : ∀ (t : SPlan), SPlan.mk t.Spread t.Paths t.IntraA t.IntraB = t := fun _ => rfl
    simp only [spec_DrawPlanOf, hd, Option.bind_some, p1, p2, laws_FnPlans_u1, eS, e, hf, bne_self_eq_false, beq_self_eq_true, Bool.and_self, if_true, Bool.false_eq_true, if_false]
    by_cases hcode : r.Code = 0
    · rw [if_neg (by simp [hcode])]
      have hp := p2
      unfold impl_PlanOf at hp
      rw [e, hf] at hp
      simp only [Option.bind_some] at hp
      by_cases f0 : f = 0
      · subst f0
        have h6 := fault_len hsl hf
        obtain ⟨p, g1, g2, g3, g4⟩ := plan_val (L := s.Last) (w := s.Window) (by omega)
        rw [eS] at g1
        simp only [bne_self_eq_false, Bool.false_eq_true, if_false, g1, Option.bind_some, Option.some.injEq] at hp
        subst hp
        simp only [laws_FnPlans_u2, eP, planFault_ok g2 g3, bne_self_eq_false, Bool.false_eq_true, if_false]
        have e2 : (if (s.Last.tmod 4 == 3) = true then (p.Paths != 3) else false) = false := by
          split
          · rename_i h; rw [g4 (by simpa using h)]; rfl
          · rfl
        rw [e2, if_neg (by simp)]
        by_cases h9 : s.Last > 9000
        · rw [if_pos (by simpa using h9)]
        · rw [if_neg (by simpa using h9)]
          obtain ⟨c1, c2, c3, c4⟩ := (fault_cond hsl).1 hf
          obtain ⟨t, q1, rfl⟩ := loop_rule (step := laws_FnPlans_s4) (fun i u => u.1 = s.Last + i ∧ u.2.2 = (i : Int) ∧ (∃ pre, u.2.1 = pre ++ List.replicate i 3 ∧ pre.length + i ≤ 6) ∧ spec_SchedulerFault ⟨u.1, u.2.1⟩ = some 0)
              (fun t => t = .inl (s.Last + 6, List.replicate 6 3)) 6 (by
            rintro i ⟨L, w, k⟩ hi ⟨k1, k2, ⟨pre, k3, k4⟩, k5⟩
            simp only at k1 k2 k3 k5
            subst k1; subst k2; subst k3
            simp only [laws_FnPlans_s4, decide_eq_true_eq]
            rcases Nat.lt_or_ge i 6 with hh | hh
            · left
              rw [if_pos (by omega), w64 (by omega), w64 (by omega)]
              have hwl : ((pre ++ List.replicate i (3 : Int)).length : Int) ≤ maxI := by simp [maxI]; omega
              obtain ⟨f', n1, n2, n3, n4⟩ := takeReport_same (s := ⟨s.Last + i, pre ++ List.replicate i 3⟩) (r := ⟨s.Last + i + 1, 3⟩) hwl
              obtain rfl : f' = 0 := by rw [k5] at n1; exact (Option.some.inj n1).symm
              have rf : spec_ReportFault ⟨s.Last + i + 1, 3⟩ = 0 := by
                rw [(reportFault_eq _).1, if_pos (by simp only []; omega)]
              have hR : takeR 0 ⟨s.Last + i, pre ++ List.replicate i 3⟩ ⟨s.Last + i + 1, 3⟩ = ⟨0, ⟨s.Last + i + 1, takeW (pre ++ List.replicate i 3) 3⟩⟩ := by
                unfold takeR
                rw [if_neg (by simp), if_neg (by simp [rf]), if_neg (by simp only []; omega)]
              have nf := take_fault (s := ⟨s.Last + i, pre ++ List.replicate i 3⟩) (r := ⟨s.Last + i + 1, 3⟩) hwl k5 rf (by simp only []; omega)
              obtain ⟨pre', t1, t2⟩ := takeW_three hh k4
              simp only at nf
              rw [t1] at nf hR
              have nl : ((pre' ++ List.replicate (i + 1) (3 : Int)).length : Int) ≤ maxI := by simp [maxI]; omega
              have nf2 := (schedFault_same (s := ⟨s.Last + i + 1, pre' ++ List.replicate (i + 1) 3⟩) nl).1
              rw [nf] at nf2
              simp only [n4, hR, Option.bind_some, laws_FnPlans_u3, nf2, bne_self_eq_false, Bool.false_eq_true, if_false]
              refine ⟨hh, _, rfl, by simp only []; omega, by simp only []; omega, ⟨pre', rfl, t2⟩, nf⟩
            · right
              obtain rfl : i = 6 := by omega
              rw [if_neg (by omega)]
              have : pre = [] := List.eq_nil_of_length_eq_zero (by omega)
              subst this
              exact ⟨_, rfl, rfl⟩) (s := (s.Last, s.Window, 0)) ⟨by simp, by simp, ⟨s.Window, by simp, by omega⟩, by simp only []; exact hf⟩
          rw [q1]
          simp only [Option.bind_some, Sum.elim_inl]
          have hf6 : spec_SchedulerFault ⟨s.Last + 6, List.replicate 6 3⟩ = some 0 :=
            (fault_cond (s := ⟨s.Last + 6, List.replicate 6 3⟩) (by simp [maxI])).2 ⟨by simp only []; omega, by simp, fun x hx => by simp at hx; omega, by simp; omega⟩
          have hi6 := (schedFault_same (s := ⟨s.Last + 6, List.replicate 6 3⟩) (by simp [maxI])).1
          rw [hf6] at hi6
          have c0 : (List.replicate 6 (3 : Int)).countP (lacksB 0) = 0 := by decide
          have c1 : (List.replicate 6 (3 : Int)).countP (lacksB 1) = 0 := by decide
          have z0 := lossesOn_zero (s := ⟨s.Last + 6, List.replicate 6 3⟩) (p := 0) (by simp [maxI]) (by omega) hf6
          have z1 := lossesOn_zero (s := ⟨s.Last + 6, List.replicate 6 3⟩) (p := 1) (by simp [maxI]) (by omega) hf6
          have zp := plan_three (L := s.Last + 6)
          simp only [c0, c1] at z0 z1
          generalize List.replicate 6 (3 : Int) = w3 at *
          simp [laws_FnPlans_u5, impl_PlanOf, hi6, zp, z0, z1]
      · exfalso
        rw [if_pos (by simp [f0])] at hp
        have := (Option.some.inj hp).symm
        rw [this] at hcode
        exact f0 hcode
    · rw [if_pos (by simp [hcode])]
end FnPlans
end Go.Proofs.Ytjgdnpockaijeaa.Wm
