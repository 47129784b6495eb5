/- What FnExactTakeReport comes to on plain values: true. -/
import Derived.Test.YtjgdnpockaijeaaFnFnExactTakeReport
set_option linter.unusedSimpArgs false
set_option linter.unusedVariables false
set_option maxRecDepth 100000
namespace Go.Proofs.Ytjgdnpockaijeaa.Wm
open Go
namespace FnExactTakeReport
theorem laws_toInt64S_eq {l : List Int} (hl : (l.length : Int) ≤ 35184372088832) : laws_toInt64S l = some l := by
  unfold laws_toInt64S
  rw [if_pos (okMake_8 (by omega) hl), Int.toNat_natCast]
  obtain ⟨t, h1, rfl⟩ := loop_rule (step := laws_toInt64S_s1 l) (fun i s => s.2 = i ∧ s.1.length = l.length ∧ ∀ j, j < i → s.1[j]? = l[j]?) (fun t => t = l) l.length (by
    rintro i ⟨a, k⟩ hi ⟨hk, ha, hj⟩
    simp only at hk ha hj
    subst hk
    simp only [laws_toInt64S_s1, decide_eq_true_eq]
    rcases Nat.lt_or_ge i l.length with h | h
    · left
      obtain ⟨x, hx, _⟩ := get_lt h
      obtain ⟨y, hy, _⟩ := get_lt (l := a) (i := i) (by omega)
      rw [if_pos (by omega), getI_nat, hx, getI_nat, hy, Int.toNat_natCast, hy, w64 (by omega)]
      refine ⟨h, _, rfl, by simp, by simp [ha], fun j hj' => ?_⟩
      simp only [List.getElem?_set]
      split
      · rename_i e; subst e; rw [if_pos (by omega), hx]
      · exact hj j (by omega)
    · right
      rw [if_neg (by omega)]
      exact ⟨a, rfl, list_ext ha fun j hj' => hj j (by omega)⟩) (s := (List.replicate l.length 0, 0)) ⟨rfl, by simp, fun j hj => by omega⟩
  rw [h1]; rfl
theorem laws_toScheduler_eq {s : SScheduler} (hl : (s.Window.length : Int) ≤ 35184372088832) : laws_toScheduler s = some s := by
  unfold laws_toScheduler
  rw [laws_toInt64S_eq hl]; rfl
theorem spec_l1In_eq {a b c : Int} : spec_l1In a b c = decide (b ≤ a ∧ a ≤ c) := by
  simp only [spec_l1In, spec_l1In_u1, decide_eq_true_eq]
  by_cases h1 : b ≤ a <;> by_cases h2 : a ≤ c <;> simp [h1, h2]
theorem spec_l1All_eq {l : List Int} {a b : Int} (hl : (l.length : Int) ≤ maxI) : spec_l1All l a b = some (decide (∀ x ∈ l, a ≤ x ∧ x ≤ b)) := by
  unfold maxI at hl
  unfold spec_l1All
  obtain ⟨t, h1, h2⟩ := loop_rule (step := spec_l1All_s1 l a b) (fun i s => s = (i : Int) ∧ ∀ j x, j < i → l[j]? = some x → a ≤ x ∧ x ≤ b)
      (fun t => (t = .inl () ∧ ∀ x ∈ l, a ≤ x ∧ x ≤ b) ∨ (t = .inr () ∧ ∃ x ∈ l, ¬ (a ≤ x ∧ x ≤ b))) l.length (by
    rintro i s hi ⟨rfl, hj⟩
    simp only [spec_l1All_s1, decide_eq_true_eq]
    rcases Nat.lt_or_ge i l.length with h | h
    · obtain ⟨x, hx, hm⟩ := get_lt h
      rw [if_pos (by omega), getI_nat, hx, w64 (by omega)]
      simp only [Option.bind_some, spec_l1In_eq, decide_eq_true_eq]
      by_cases hp : a ≤ x ∧ x ≤ b
      · left
        rw [if_pos hp]
        refine ⟨h, _, rfl, by simp, fun j y hj' hy => ?_⟩
        rcases Nat.lt_or_ge j i with hji | hji
        · exact hj j y hji hy
        · obtain rfl : j = i := by omega
          rw [hx] at hy; obtain rfl := Option.some.inj hy; exact hp
      · right
        rw [if_neg hp]
        exact ⟨_, rfl, .inr ⟨rfl, x, hm, hp⟩⟩
    · right
      rw [if_neg (by omega)]
      refine ⟨_, rfl, .inl ⟨rfl, fun x hx => ?_⟩⟩
      obtain ⟨j, hj'⟩ := List.getElem?_of_mem hx
      exact hj j x (by have := (List.getElem?_eq_some_iff.1 hj').1; omega) hj') (s := 0) ⟨rfl, fun j x hj => by omega⟩
  rw [h1]
  rcases h2 with ⟨rfl, h⟩ | ⟨rfl, x, hx, h⟩
  · simp only [Option.bind_some, Sum.elim_inl, Option.some.injEq]; exact (decide_eq_true h).symm
  · simp only [Option.bind_some, Sum.elim_inr, Option.some.injEq]; exact (decide_eq_false fun hh => h (hh x hx)).symm
theorem impl_inRange_eq {a b c : Int} : impl_inRange a b c = decide (b ≤ a ∧ a ≤ c) := by
  simp only [impl_inRange, impl_inRange_u1, decide_eq_true_eq]
  by_cases h1 : b ≤ a <;> by_cases h2 : a ≤ c <;> simp [h1, h2]
def firstL : List Int → Int
  | [] => 0
  | x :: l => if x ≠ 0 then x else firstL l
theorem firstL_skip : ∀ {i : Nat} {l : List Int}, (∀ j x, j < i → l[j]? = some x → x = 0) → firstL l = firstL (l.drop i)
  | 0, l, h => by simp
  | i + 1, [], h => by simp
  | i + 1, x :: l, h => by
    have := h 0 x (by omega) rfl
    subst this
    simp only [firstL, ne_eq, not_true, if_false, List.drop_succ_cons]
    exact firstL_skip fun j x hj hx => h (j + 1) x (by omega) (by simpa using hx)
theorem impl_first_eq {l : List Int} (hl : (l.length : Int) ≤ maxI) : impl_first l = some (firstL l) := by
  unfold maxI at hl
  unfold impl_first
  obtain ⟨t, h1, h2⟩ := loop_rule (step := impl_first_s1 l (l.length : Int)) (fun i s => s = (i : Int) ∧ ∀ j x, j < i → l[j]? = some x → x = 0)
      (fun t => (t = .inl () ∧ firstL l = 0) ∨ (t = .inr (firstL l))) l.length (by
    rintro i s hi ⟨rfl, hj⟩
    simp only [impl_first_s1, decide_eq_true_eq]
    rcases Nat.lt_or_ge i l.length with h | h
    · obtain ⟨x, hx, hm⟩ := get_lt h
      rw [if_pos (by omega), getI_nat, hx, w64 (by omega)]
      simp only [Option.bind_some, bne_iff_ne, ne_eq]
      by_cases hp : x = 0
      · left
        rw [if_neg (by simp [hp])]
        refine ⟨h, _, rfl, by simp, fun j y hj' hy => ?_⟩
        rcases Nat.lt_or_ge j i with hji | hji
        · exact hj j y hji hy
        · obtain rfl : j = i := by omega
          rw [hx] at hy; obtain rfl := Option.some.inj hy; exact hp
      · right
        rw [if_pos hp]
        refine ⟨_, rfl, .inr ?_⟩
        rw [firstL_skip hj, List.drop_eq_getElem_cons h, firstL]
        have : l[i] = x := by rw [List.getElem?_eq_getElem h] at hx; exact Option.some.inj hx
        rw [this, if_pos hp]
    · right
      rw [if_neg (by omega)]
      refine ⟨_, rfl, .inl ⟨rfl, ?_⟩⟩
      rw [firstL_skip hj, List.drop_eq_nil_of_le h]; rfl) (s := 0) ⟨rfl, fun j x hj => by omega⟩
  rw [h1]
  rcases h2 with ⟨rfl, h⟩ | rfl
  · simp [h]
  · simp
theorem impl_codeIf_eq {b : Bool} {c : Int} : impl_codeIf b c = if b = true then c else 0 := rfl
theorem laws_eqInt64S_self {l : List Int} (hl : (l.length : Int) ≤ maxI) : laws_eqInt64S l l = some true := by
  unfold maxI at hl
  unfold laws_eqInt64S
  rw [if_neg (by simp)]
  obtain ⟨t, h1, rfl⟩ := loop_rule (step := laws_eqInt64S_s1 l l) (fun i s => s = (i : Int)) (fun t => t = .inl ()) l.length (by
    rintro i s hi rfl
    simp only [laws_eqInt64S_s1, decide_eq_true_eq]
    rcases Nat.lt_or_ge i l.length with h | h
    · left
      obtain ⟨x, hx, _⟩ := get_lt h
      rw [if_pos (by omega), getI_nat, hx, w64 (by omega)]
      simp only [Option.bind_some, bne_self_eq_false, Bool.false_eq_true, if_false]
      exact ⟨h, _, rfl, by simp⟩
    · right
      rw [if_neg (by omega)]
      exact ⟨_, rfl, rfl⟩) (s := 0) rfl
  rw [h1]; rfl
theorem laws_eqScheduler_self {s : SScheduler} (hl : (s.Window.length : Int) ≤ maxI) : laws_eqScheduler s s = some true := by
  unfold laws_eqScheduler
  rw [if_neg (by simp), laws_eqInt64S_self hl]; rfl
theorem laws_szInt64S_ge {l : List Int} {n : Int} (hn : 0 ≤ n ∧ n ≤ 1048576) (hl : (l.length : Int) ≤ maxI) (h : ¬ laws_szInt64S l n < 0) : (l.length : Int) ≤ n := by
  unfold maxI at hl
  simp only [laws_szInt64S, decide_eq_true_eq] at h
  rw [w64 (by omega)] at h
  split at h <;> omega
theorem laws_szScheduler_ge {s : SScheduler} {n : Int} (hn : 0 ≤ n ∧ n ≤ 1048576) (hl : (s.Window.length : Int) ≤ maxI) (h : ¬ laws_szScheduler s n < 0) : (s.Window.length : Int) ≤ n := by
  simp only [laws_szScheduler, decide_eq_true_eq] at h
  split at h
  · omega
  · exact laws_szInt64S_ge hn hl h
theorem schedFault_contains {l : List Int} (hl : (l.length : Int) ≤ maxI) : slices_ContainsFunc_int64_impl_SchedulerFault_1 l = some (decide (∃ x ∈ l, ¬ (0 ≤ x ∧ x ≤ 3))) := by
  unfold maxI at hl
  unfold slices_ContainsFunc_int64_impl_SchedulerFault_1 slices_IndexFunc_int64_impl_SchedulerFault_1
  have hp : ∀ x, impl_SchedulerFault_1 x = decide (¬ (0 ≤ x ∧ x ≤ 3)) := fun x => by
    simp only [impl_SchedulerFault_1, impl_isGot, impl_inRange_eq]
    by_cases h : 0 ≤ x ∧ x ≤ 3 <;> simp [h]
  obtain ⟨t, h1, h2⟩ := loop_rule (step := slices_IndexFunc_int64_impl_SchedulerFault_1_s1 l (l.length : Int)) (fun i s => s = (i : Int) ∧ ∀ j x, j < i → l[j]? = some x → 0 ≤ x ∧ x ≤ 3)
      (fun t => (t = .inl () ∧ ∀ x ∈ l, 0 ≤ x ∧ x ≤ 3) ∨ (∃ n : Int, 0 ≤ n ∧ t = .inr n ∧ ∃ x ∈ l, ¬ (0 ≤ x ∧ x ≤ 3))) l.length (by
    rintro i s hi ⟨rfl, hj⟩
    simp only [slices_IndexFunc_int64_impl_SchedulerFault_1_s1, decide_eq_true_eq]
    rcases Nat.lt_or_ge i l.length with h | h
    · obtain ⟨x, hx, hm⟩ := get_lt h
      rw [if_pos (by omega), getI_nat, hx, w64 (by omega)]
      simp only [Option.bind_some, hp, decide_eq_true_eq]
      by_cases hq : 0 ≤ x ∧ x ≤ 3
      · left
        rw [if_neg (fun h => h hq)]
        refine ⟨h, _, rfl, by simp, fun j y hj' hy => ?_⟩
        rcases Nat.lt_or_ge j i with hji | hji
        · exact hj j y hji hy
        · obtain rfl : j = i := by omega
          rw [hx] at hy; obtain rfl := Option.some.inj hy; exact hq
      · right
        rw [if_pos hq]
        exact ⟨_, rfl, .inr ⟨_, by omega, rfl, x, hm, hq⟩⟩
    · right
      rw [if_neg (by omega)]
      refine ⟨_, rfl, .inl ⟨rfl, fun x hx => ?_⟩⟩
      obtain ⟨j, hj'⟩ := List.getElem?_of_mem hx
      exact hj j x (by have := (List.getElem?_eq_some_iff.1 hj').1; omega) hj') (s := 0) ⟨rfl, fun j x hj => by omega⟩
  rw [h1]
  rcases h2 with ⟨rfl, h⟩ | ⟨n, hn, rfl, x, hx, h⟩
  · simp only [Option.bind_some, Sum.elim_inl, Option.some.injEq]
    rw [decide_eq_false (by omega)]
    exact (decide_eq_false fun ⟨x, hx, hh⟩ => hh (h x hx)).symm
  · simp only [Option.bind_some, Sum.elim_inr, Option.some.injEq]
    rw [decide_eq_true (by omega)]
    exact (decide_eq_true ⟨x, hx, h⟩).symm
theorem schedFault_same {s : SScheduler} (hl : (s.Window.length : Int) ≤ maxI) : impl_SchedulerFault s = spec_SchedulerFault s ∧ (spec_SchedulerFault s).isSome = true := by
  unfold impl_SchedulerFault spec_SchedulerFault
  rw [schedFault_contains hl, spec_l1All_eq hl]
  simp only [Option.bind_some]
  rw [impl_first_eq (by simp [maxI])]
  simp only [Option.bind_some, spec_l1In_eq, impl_inRange_eq, impl_codeIf_eq, firstL]
  by_cases h1 : -1 ≤ s.Last ∧ s.Last ≤ 9999
  · by_cases h2 : (s.Window.length : Int) > 6
    · simp [h1, h2]
    · by_cases h3 : ∀ x ∈ s.Window, 0 ≤ x ∧ x ≤ 3
      · have h4 : ¬ ∃ x ∈ s.Window, ¬ (0 ≤ x ∧ x ≤ 3) := fun ⟨x, hx, hh⟩ => hh (h3 x hx)
        rw [decide_eq_true h3, decide_eq_false h4]
        by_cases h5 : ((s.Last == -1) == ((s.Window.length : Int) == 0)) = true
        · simp [h1, h2, h5]
        · simp [h1, h2, h5]
      · have h4 : ∃ x ∈ s.Window, ¬ (0 ≤ x ∧ x ≤ 3) := Classical.byContradiction fun hh => h3 fun x hx => Classical.byContradiction fun h => hh ⟨x, hx, h⟩
        rw [decide_eq_false h3, decide_eq_true h4]
        simp [h1, h2]
  · simp [h1]
theorem laws_heldInt64S_eq {l : List Int} {k : Int} (hk : 0 ≤ k) (hs : k + l.length ≤ maxI) (h : ∀ (j : Nat), j < l.length → l[j]? = some (k + j)) : laws_heldInt64S l k = some (k + l.length) := by
  unfold maxI at hs
  unfold laws_heldInt64S
  obtain ⟨t, h1, rfl⟩ := loop_rule (step := laws_heldInt64S_s1 l) (fun i s => s = (k + (i : Int), (i : Int))) (fun t => t = .inl (k + (l.length : Int))) l.length (by
    rintro i s hi rfl
    simp only [laws_heldInt64S_s1, decide_eq_true_eq]
    rcases Nat.lt_or_ge i l.length with hh | hh
    · left
      rw [if_pos (by omega), getI_nat, h i hh, w64 (by omega), w64 (by omega)]
      simp only [Option.bind_some, bne_self_eq_false, Bool.false_eq_true, if_false]
      exact ⟨hh, _, rfl, by simp only [Prod.mk.injEq]; omega⟩
    · right
      obtain rfl : i = l.length := by omega
      rw [if_neg (by omega)]
      exact ⟨_, rfl, rfl⟩) (s := (k, 0)) (by simp)
  rw [h1]; rfl
theorem laws_markInt64S_eq {l : List Int} {k : Int} (hk : 0 ≤ k) (hs : k + l.length ≤ maxI) : ∃ l', laws_markInt64S l k = some (k + l.length, l') ∧ l'.length = l.length ∧ laws_heldInt64S l' k = some (k + l.length) := by
  have hs' := hs
  unfold maxI at hs
  unfold laws_markInt64S
  obtain ⟨t, h1, h2, h3, h4⟩ := loop_rule (step := laws_markInt64S_s1) (fun i s => s.2.1 = k + (i : Int) ∧ s.2.2 = (i : Int) ∧ s.1.length = l.length ∧ ∀ (j : Nat), j < i → s.1[j]? = some (k + j)) (fun t => t.2 = k + (l.length : Int) ∧ t.1.length = l.length ∧ ∀ (j : Nat), j < l.length → t.1[j]? = some (k + j)) l.length (by
    rintro i ⟨a, m, n⟩ hi ⟨hm, hn, ha, hj⟩
    simp only at hm hn ha hj
    subst hm; subst hn
    simp only [laws_markInt64S_s1, decide_eq_true_eq]
    rcases Nat.lt_or_ge i l.length with hh | hh
    · left
      obtain ⟨y, hy, _⟩ := get_lt (l := a) (i := i) (by omega)
      rw [if_pos (by omega), getI_nat, hy, Int.toNat_natCast, hy, w64 (by omega), w64 (by omega)]
      refine ⟨hh, _, rfl, by simp; omega, by simp, by simp [ha], fun j hj' => ?_⟩
      simp only [List.getElem?_set]
      split
      · rename_i e; subst e; rw [if_pos (by omega)]
      · exact hj j (by omega)
    · right
      obtain rfl : i = l.length := by omega
      rw [if_neg (by omega)]
      exact ⟨_, rfl, rfl, ha, hj⟩) (s := (l, k, 0)) ⟨by simp, rfl, rfl, fun j hj => by omega⟩
  rw [h1]
  obtain ⟨a, b⟩ := t
  simp only at h2 h3 h4
  subst h2
  refine ⟨a, rfl, h3, ?_⟩
  have := laws_heldInt64S_eq (l := a) hk (by rw [h3]; exact hs') (by rw [h3]; exact h4)
  rw [h3] at this
  exact this
theorem cutI_eq {n : Nat} {l h : Int} (h1 : 0 ≤ l) (h2 : l ≤ h) (h3 : h ≤ n) : cutI n l h = some (l.toNat, h.toNat) := by
  unfold cutI; rw [if_pos ⟨by omega, h3⟩, if_pos ⟨h1, by omega⟩]
def takeW (w : List Int) (g : Int) : List Int := if w.length = 6 then (w ++ [g]).drop 1 else w ++ [g]
theorem takeW_len {w : List Int} {g : Int} (h : w.length ≤ 6) : (takeW w g).length ≤ 6 ∧ 0 < (takeW w g).length := by
  unfold takeW; split <;> simp <;> omega
theorem clone64 {l : List Int} (h : (l.length : Int) ≤ 17592186044416) : slices_Clone_int64 l = some l := by
  unfold slices_Clone_int64; rw [if_pos (okApp_8 (by omega))]
theorem ints64 {l : List Int} (h : (l.length : Int) ≤ 17592186044416) : spec_l1Ints l = some l := by
  unfold spec_l1Ints; rw [if_pos (okApp_8 (by omega))]
theorem take_impl {s : SScheduler} {r : SReport} (h : s.Window.length ≤ 6) : impl_Scheduler_take s r = some (if r.Number ≤ s.Last then (⟨0, []⟩, 9) else (⟨r.Number, takeW s.Window r.Got⟩, 0)) := by
  unfold impl_Scheduler_take
  simp only [decide_eq_true_eq]
  split
  · rfl
  · simp only [impl_Scheduler_take_u1]
    rw [clone64 (by omega)]
    simp only [Option.bind_some]
    rw [if_pos (okApp_8 (by simp; omega))]
    simp only [Option.bind_some]
    have hl : (s.Window ++ [r.Got]).length = s.Window.length + 1 := by simp
    rw [hl, w64 (by omega)]
    rcases Nat.lt_or_ge s.Window.length 6 with h6 | h6
    · rw [if_neg (by omega), cutI_eq (by omega) (by omega) (by omega)]
      simp only [Option.bind_some, Int.toNat_zero, List.drop_zero, Int.toNat_natCast, Nat.sub_zero]
      rw [← hl, List.take_length, clone64 (by simp; omega)]
      simp only [Option.bind_some, takeW]
      rw [if_neg (by omega)]
    · have : s.Window.length = 6 := by omega
      rw [this, if_pos (by omega), cutI_eq (by omega) (by omega) (by omega)]
      simp only [Option.bind_some]
      have e : (List.take (((6 + 1 : Nat) : Int).toNat - (((6 + 1 : Nat) : Int) - 6).toNat) (List.drop (((6 + 1 : Nat) : Int) - 6).toNat (s.Window ++ [r.Got]))) = (s.Window ++ [r.Got]).drop 1 := by
        have h1 : (((6 + 1 : Nat) : Int) - 6).toNat = 1 := by decide
        have h2 : (((6 + 1 : Nat) : Int).toNat - 1) = 6 := by decide
        rw [h1, h2]
        exact List.take_of_length_le (by simp; omega)
      rw [e, clone64 (by simp; omega)]
      simp only [Option.bind_some, takeW]
      rw [if_pos this]
theorem take_spec {s : SScheduler} {r : SReport} (h : s.Window.length ≤ 6) : spec_l19Take s r = some (if r.Number ≤ s.Last then (⟨0, []⟩, 9) else (⟨r.Number, takeW s.Window r.Got⟩, 0)) := by
  unfold spec_l19Take
  simp only [decide_eq_true_eq]
  split
  · rfl
  · simp only [spec_l19Take_u1]
    rw [ints64 (by omega)]
    simp only [Option.bind_some]
    rw [if_pos (okApp_8 (by simp; omega))]
    simp only [Option.bind_some, spec_l19Take_u2, decide_eq_true_eq]
    have hl : (s.Window ++ [r.Got]).length = s.Window.length + 1 := by simp
    rw [hl]
    rcases Nat.lt_or_ge s.Window.length 6 with h6 | h6
    · rw [if_neg (by omega)]
      simp only [Option.bind_some, takeW]
      rw [if_neg (by omega)]
    · have : s.Window.length = 6 := by omega
      rw [this, if_pos (by omega), cutI_eq (by omega) (by omega) (by omega)]
      simp only [Option.bind_some]
      have e : (List.take (((6 + 1 : Nat) : Int).toNat - (1 : Int).toNat) (List.drop (1 : Int).toNat (s.Window ++ [r.Got]))) = (s.Window ++ [r.Got]).drop 1 := by
        have h1 : (1 : Int).toNat = 1 := by decide
        have h2 : (((6 + 1 : Nat) : Int).toNat - 1) = 6 := by decide
        rw [h1, h2]
        exact List.take_of_length_le (by simp; omega)
      rw [e, ints64 (by simp; omega)]
      simp only [Option.bind_some, takeW]
      rw [if_pos this]
theorem fault_len {s : SScheduler} (hl : (s.Window.length : Int) ≤ maxI) (h : spec_SchedulerFault s = some 0) : s.Window.length ≤ 6 := by
  unfold spec_SchedulerFault at h
  simp only [decide_eq_true_eq] at h
  split at h
  · split at h
    · simp at h
    · omega
  · simp at h
theorem reportFault_eq (r : SReport) : spec_ReportFault r = (if (0 ≤ r.Number ∧ r.Number ≤ 9999) ∧ 0 ≤ r.Got ∧ r.Got ≤ 3 then 0 else 3) ∧ impl_ReportFault r = (if (0 ≤ r.Number ∧ r.Number ≤ 9999) ∧ 0 ≤ r.Got ∧ r.Got ≤ 3 then 0 else 3) := by
  simp only [spec_ReportFault, spec_ReportFault_u1, impl_ReportFault, impl_ReportFault_u1, impl_isNumber, impl_isGot, spec_l14Number, spec_l1In_eq, impl_inRange_eq, impl_codeIf_eq, decide_eq_true_eq]
  by_cases h1 : 0 ≤ r.Number ∧ r.Number ≤ 9999 <;> by_cases h2 : 0 ≤ r.Got ∧ r.Got ≤ 3 <;> simp [h1, h2]
/-- What a report comes to. -/
def takeR (c : Int) (s : SScheduler) (r : SReport) : SSchedulerResult :=
  if c ≠ 0 then ⟨c, ⟨0, []⟩⟩ else if spec_ReportFault r ≠ 0 then ⟨3, ⟨0, []⟩⟩ else if r.Number ≤ s.Last then ⟨9, ⟨0, []⟩⟩ else ⟨0, ⟨r.Number, takeW s.Window r.Got⟩⟩
theorem takeReport_same {s : SScheduler} {r : SReport} (hl : (s.Window.length : Int) ≤ maxI) : ∃ c, spec_SchedulerFault s = some c ∧ impl_SchedulerFault s = some c ∧ spec_TakeReport s r = some (takeR c s r) ∧ impl_TakeReport s r = some (takeR c s r) := by
  obtain ⟨e, h1⟩ := schedFault_same hl
  obtain ⟨c, hc⟩ := Option.isSome_iff_exists.1 h1
  rw [hc] at e
  refine ⟨c, hc, e, ?_, ?_⟩
  · unfold spec_TakeReport takeR
    rw [hc]
    simp only [Option.bind_some, bne_iff_ne]
    by_cases h : c = 0
    · subst h
      simp only [ne_eq, not_true, if_false]
      by_cases h2 : spec_ReportFault r = 0
      · simp only [h2, not_true, if_false]
        rw [take_spec (fault_len hl hc)]
        simp only [Option.bind_some]
        split <;> rfl
      · simp only [h2, not_false_eq_true, if_true]
        have := (reportFault_eq r).1
        split at this
        · exact absurd this h2
        · rw [this]
    · simp [h]
  · unfold impl_TakeReport takeR
    rw [e]
    simp only [Option.bind_some]
    rw [impl_first_eq (by simp [maxI])]
    have er : impl_ReportFault r = spec_ReportFault r := (reportFault_eq r).2.trans (reportFault_eq r).1.symm
    simp only [Option.bind_some, firstL, er, bne_iff_ne]
    by_cases h : c = 0
    · subst h
      simp only [ne_eq, not_true, if_false]
      by_cases h2 : spec_ReportFault r = 0
      · simp only [h2, not_true, if_false]
        rw [take_impl (fault_len hl hc)]
        simp only [Option.bind_some]
        split <;> rfl
      · simp only [h2, not_false_eq_true, if_true]
        have := (reportFault_eq r).1
        split at this
        · exact absurd this h2
        · rw [this]
    · simp [h]
theorem takeR_len {c : Int} {s : SScheduler} {r : SReport} (hl : (s.Window.length : Int) ≤ maxI) (hc : spec_SchedulerFault s = some c) : (takeR c s r).Scheduler.Window.length ≤ 6 := by
  unfold takeR
  split
  · simp
  · split
    · simp
    · split
      · simp
      · rename_i h _ _
        simp only [ne_eq, Classical.not_not] at h
        subst h
        exact (takeW_len (fault_len hl hc)).1
--REST0
theorem eqRes_self {s : SSchedulerResult} (hl : (s.Scheduler.Window.length : Int) ≤ maxI) : laws_eqSchedulerResult s s = some true := by
  unfold laws_eqSchedulerResult
  rw [if_neg (by simp), laws_eqScheduler_self hl]; rfl
theorem pure (s : SScheduler) (r : SReport) (hs : s.Wf) (hr : r.Wf) : laws_FnExactTakeReport s r = some true := by
  obtain ⟨_, hl, _⟩ := hs
  unfold laws_FnExactTakeReport
  simp only [decide_eq_true_eq]
  split
  · rfl
  · rename_i h
    have hl2 := laws_szScheduler_ge ⟨by omega, by omega⟩ hl h
    obtain ⟨c, h1, h2, h3, h4⟩ := takeReport_same (r := r) hl
    have hR := takeR_len (r := r) hl h1
    have et : laws_toScheduler s = some s := laws_toScheduler_eq (by omega)
    have er : laws_toReport r = r := rfl
    have eS : ∀ (t : SScheduler), SScheduler.mk t.Last t.Window = t := fun _ => rfl
    have eR : ∀ (t : SReport), SReport.mk t.Number t.Got = t := fun _ => rfl
    simp only [laws_FnExactTakeReport_u1, laws_FnExactTakeReport_u2, eS, eR, er, et, Option.bind_some, h3, h4]
    generalize hw : takeR c s r = w at *
    have hw6 : (w.Scheduler.Window.length : Int) ≤ maxI := by unfold maxI; omega
    have eW : ∀ (t : SSchedulerResult), SSchedulerResult.mk t.Code t.Scheduler = t := fun _ => rfl
    simp only [eW, eqRes_self hw6, laws_eqScheduler_self hl, Option.bind_some, if_true]
    obtain ⟨m1, k1, k2, k3⟩ := laws_markInt64S_eq (l := s.Window) (k := 1) (by omega) (by unfold maxI; omega)
    obtain ⟨m2, j1, j2, j3⟩ := laws_markInt64S_eq (l := w.Scheduler.Window) (k := 1) (by omega) (by unfold maxI; omega)
    simp only [laws_FnExactTakeReport_u7, laws_markScheduler_o, laws_markSchedulerResult_o, k1, Option.bind_some, k2, if_true, laws_FnExactTakeReport_u3, eS, eW, eqRes_self hw6, j1, j2]
    have d1 : decide (1 + (s.Window.length : Int) < 0) = false := decide_eq_false (by omega)
    have d2 : decide (1 + (w.Scheduler.Window.length : Int) < 0) = false := decide_eq_false (by omega)
    have d3 : ¬ (1 + (w.Scheduler.Window.length : Int) < 0) := by omega
    simp only [d1, Bool.false_eq_true, if_false, Option.bind_some, Bool.not_true, laws_FnExactTakeReport_u6, laws_heldSchedulerResult, laws_heldScheduler, j3, d2, bne_self_eq_false, laws_FnExactTakeReport_u4, eS, eR, er, et, h4, hw, eW, eqRes_self hw6, if_true, laws_FnExactTakeReport_u5]
end FnExactTakeReport
end Go.Proofs.Ytjgdnpockaijeaa.Wm
