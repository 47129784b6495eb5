/- What FnExactIntraSides comes to on plain values: true. -/
import Derived.Test.YtajlapiocnanbaaFnBFnExactIntraSides
set_option linter.unusedSimpArgs false
set_option linter.unusedVariables false
set_option maxRecDepth 100000
namespace Go.Proofs.Ytajlapiocnanbaa.Wm
open Go
namespace FnExactIntraSides
theorem laws_toInt64S_eq {l : List Int} (hl : (l.length : Int) ≤ 35184372088832) : laws_toInt64S l = some l := by
  unfold laws_toInt64S
  rw [if_pos (okMake_8 (by omega) hl), Int.toNat_natCast]
  obtain ⟨t, h1, rfl⟩ := loop_rule (step := laws_toInt64S_s1 l) (fun i s => s.2 = i ∧ s.1.length = l.length ∧ ∀ j, j < i → s.1[j]? = l[j]?) (fun t => t = l) l.length (by
    rintro i ⟨a, k⟩ hi ⟨hk, ha, hj⟩
    simp only at hk ha hj
    subst hk
    simp only [laws_toInt64S_s1, decide_eq_true_eq]
    rcases Nat.lt_or_ge i l.length with h | h
    · left
      obtain ⟨x, hx, _⟩ := get_lt h
      obtain ⟨y, hy, _⟩ := get_lt (l := a) (i := i) (by omega)
      rw [if_pos (by omega), getI_nat, hx, getI_nat, hy, Int.toNat_natCast, hy, w64 (by omega)]
      refine ⟨h, _, rfl, by simp, by simp [ha], fun j hj' => ?_⟩
      simp only [List.getElem?_set]
      split
      · rename_i e; subst e; rw [if_pos (by omega), hx]
      · exact hj j (by omega)
    · right
      rw [if_neg (by omega)]
      exact ⟨a, rfl, list_ext ha fun j hj' => hj j (by omega)⟩) (s := (List.replicate l.length 0, 0)) ⟨rfl, by simp, fun j hj => by omega⟩
  rw [h1]; rfl
theorem spec_l1In_eq {a b c : Int} : spec_l1In a b c = decide (b ≤ a ∧ a ≤ c) := by
  simp only [spec_l1In, spec_l1In_u1, decide_eq_true_eq]
  by_cases h1 : b ≤ a <;> by_cases h2 : a ≤ c <;> simp [h1, h2]
theorem spec_l1All_eq {l : List Int} {a b : Int} (hl : (l.length : Int) ≤ maxI) : spec_l1All l a b = some (decide (∀ x ∈ l, a ≤ x ∧ x ≤ b)) := by
  unfold maxI at hl
  unfold spec_l1All
  obtain ⟨t, h1, h2⟩ := loop_rule (step := spec_l1All_s1 l a b) (fun i s => s = (i : Int) ∧ ∀ j x, j < i → l[j]? = some x → a ≤ x ∧ x ≤ b)
      (fun t => (t = .inl () ∧ ∀ x ∈ l, a ≤ x ∧ x ≤ b) ∨ (t = .inr () ∧ ∃ x ∈ l, ¬ (a ≤ x ∧ x ≤ b))) l.length (by
    rintro i s hi ⟨rfl, hj⟩
    simp only [spec_l1All_s1, decide_eq_true_eq]
    rcases Nat.lt_or_ge i l.length with h | h
    · obtain ⟨x, hx, hm⟩ := get_lt h
      rw [if_pos (by omega), getI_nat, hx, w64 (by omega)]
      simp only [Option.bind_some, spec_l1In_eq, decide_eq_true_eq]
      by_cases hp : a ≤ x ∧ x ≤ b
      · left
        rw [if_pos hp]
        refine ⟨h, _, rfl, by simp, fun j y hj' hy => ?_⟩
        rcases Nat.lt_or_ge j i with hji | hji
        · exact hj j y hji hy
        · obtain rfl : j = i := by omega
          rw [hx] at hy; obtain rfl := Option.some.inj hy; exact hp
      · right
        rw [if_neg hp]
        exact ⟨_, rfl, .inr ⟨rfl, x, hm, hp⟩⟩
    · right
      rw [if_neg (by omega)]
      refine ⟨_, rfl, .inl ⟨rfl, fun x hx => ?_⟩⟩
      obtain ⟨j, hj'⟩ := List.getElem?_of_mem hx
      exact hj j x (by have := (List.getElem?_eq_some_iff.1 hj').1; omega) hj') (s := 0) ⟨rfl, fun j x hj => by omega⟩
  rw [h1]
  rcases h2 with ⟨rfl, h⟩ | ⟨rfl, x, hx, h⟩
  · simp only [Option.bind_some, Sum.elim_inl, Option.some.injEq]; exact (decide_eq_true h).symm
  · simp only [Option.bind_some, Sum.elim_inr, Option.some.injEq]; exact (decide_eq_false fun hh => h (hh x hx)).symm
theorem impl_inRange_eq {a b c : Int} : impl_inRange a b c = decide (b ≤ a ∧ a ≤ c) := by
  simp only [impl_inRange, impl_inRange_u1, decide_eq_true_eq]
  by_cases h1 : b ≤ a <;> by_cases h2 : a ≤ c <;> simp [h1, h2]
def firstL : List Int → Int
  | [] => 0
  | x :: l => if x ≠ 0 then x else firstL l
theorem firstL_skip : ∀ {i : Nat} {l : List Int}, (∀ j x, j < i → l[j]? = some x → x = 0) → firstL l = firstL (l.drop i)
  | 0, l, h => by simp
  | i + 1, [], h => by simp
  | i + 1, x :: l, h => by
    have := h 0 x (by omega) rfl
    subst this
    simp only [firstL, ne_eq, not_true, if_false, List.drop_succ_cons]
    exact firstL_skip fun j x hj hx => h (j + 1) x (by omega) (by simpa using hx)
theorem impl_first_eq {l : List Int} (hl : (l.length : Int) ≤ maxI) : impl_first l = some (firstL l) := by
  unfold maxI at hl
  unfold impl_first
  obtain ⟨t, h1, h2⟩ := loop_rule (step := impl_first_s1 l (l.length : Int)) (fun i s => s = (i : Int) ∧ ∀ j x, j < i → l[j]? = some x → x = 0)
      (fun t => (t = .inl () ∧ firstL l = 0) ∨ (t = .inr (firstL l))) l.length (by
    rintro i s hi ⟨rfl, hj⟩
    simp only [impl_first_s1, decide_eq_true_eq]
    rcases Nat.lt_or_ge i l.length with h | h
    · obtain ⟨x, hx, hm⟩ := get_lt h
      rw [if_pos (by omega), getI_nat, hx, w64 (by omega)]
      simp only [Option.bind_some, bne_iff_ne, ne_eq]
      by_cases hp : x = 0
      · left
        rw [if_neg (by simp [hp])]
        refine ⟨h, _, rfl, by simp, fun j y hj' hy => ?_⟩
        rcases Nat.lt_or_ge j i with hji | hji
        · exact hj j y hji hy
        · obtain rfl : j = i := by omega
          rw [hx] at hy; obtain rfl := Option.some.inj hy; exact hp
      · right
        rw [if_pos hp]
        refine ⟨_, rfl, .inr ?_⟩
        rw [firstL_skip hj, List.drop_eq_getElem_cons h, firstL]
        have : l[i] = x := by rw [List.getElem?_eq_getElem h] at hx; exact Option.some.inj hx
        rw [this, if_pos hp]
    · right
      rw [if_neg (by omega)]
      refine ⟨_, rfl, .inl ⟨rfl, ?_⟩⟩
      rw [firstL_skip hj, List.drop_eq_nil_of_le h]; rfl) (s := 0) ⟨rfl, fun j x hj => by omega⟩
  rw [h1]
  rcases h2 with ⟨rfl, h⟩ | rfl
  · simp [h]
  · simp
theorem impl_codeIf_eq {b : Bool} {c : Int} : impl_codeIf b c = if b = true then c else 0 := rfl
theorem laws_eqInt64S_self {l : List Int} (hl : (l.length : Int) ≤ maxI) : laws_eqInt64S l l = some true := by
  unfold maxI at hl
  unfold laws_eqInt64S
  rw [if_neg (by simp)]
  obtain ⟨t, h1, rfl⟩ := loop_rule (step := laws_eqInt64S_s1 l l) (fun i s => s = (i : Int)) (fun t => t = .inl ()) l.length (by
    rintro i s hi rfl
    simp only [laws_eqInt64S_s1, decide_eq_true_eq]
    rcases Nat.lt_or_ge i l.length with h | h
    · left
      obtain ⟨x, hx, _⟩ := get_lt h
      rw [if_pos (by omega), getI_nat, hx, w64 (by omega)]
      simp only [Option.bind_some, bne_self_eq_false, Bool.false_eq_true, if_false]
      exact ⟨h, _, rfl, by simp⟩
    · right
      rw [if_neg (by omega)]
      exact ⟨_, rfl, rfl⟩) (s := 0) rfl
  rw [h1]; rfl
theorem l1All_all {l : List Int} {a b : Int} (hl : (l.length : Int) ≤ maxI) : spec_l1All l a b = some (l.all fun x => decide (a ≤ x ∧ x ≤ b)) := by
  rw [spec_l1All_eq hl]
  congr 1
  rw [Bool.eq_iff_iff]
  simp
theorem size_same {n : Int} : impl_SizeFault n = spec_SizeFault n := rfl
theorem size_cases {n : Int} : spec_SizeFault n = 0 ∨ spec_SizeFault n = 3 := by
  unfold spec_SizeFault
  simp only []
  split
  · exact .inr rfl
  · exact .inl rfl
theorem allWithin_eq {l : List Int} {k : Int} (hk : 0 ≤ k ∧ k ≤ 1000000) (hl : (l.length : Int) ≤ maxI) : impl_allWithin l k = some (l.all fun x => decide (-k ≤ x ∧ x ≤ k)) := by
  unfold impl_allWithin slices_ContainsFunc_impl_allWithin_1 slices_IndexFunc_impl_allWithin_1
  obtain ⟨r, h1, h2⟩ := find_loop (l := l) (fun x => impl_allWithin_1 x k) (step := slices_IndexFunc_impl_allWithin_1_s1 l k (l.length : Int)) (fun i x hx => by
      have hi : i < l.length := (List.getElem?_eq_some_iff.1 hx).1
      simp only [slices_IndexFunc_impl_allWithin_1_s1, decide_eq_true_eq]
      rw [if_pos (by omega), getI_nat, hx]
      simp only [Option.bind_some]
      split <;> rfl) (by
      simp only [slices_IndexFunc_impl_allWithin_1_s1, decide_eq_true_eq]
      rw [if_neg (by omega)]) hl
  rw [h1]
  simp only [Option.bind_some, h2, List.not_any_eq_all_not]
  congr 2
  funext x
  simp only [impl_allWithin_1, impl_within, impl_inRange_eq, Bool.not_not]
  rw [w64 (by omega)]
  simp
theorem areSamples_eq {l : List Int} (hl : (l.length : Int) ≤ maxI) : impl_areSamples l = some (l.all fun x => decide (-32768 ≤ x ∧ x ≤ 32767)) := by
  unfold impl_areSamples slices_ContainsFunc_impl_areSamples_1 slices_IndexFunc_impl_areSamples_1
  obtain ⟨r, h1, h2⟩ := find_loop (l := l) (fun x => impl_areSamples_1 x) (step := slices_IndexFunc_impl_areSamples_1_s1 l (l.length : Int)) (fun i x hx => by
      have hi : i < l.length := (List.getElem?_eq_some_iff.1 hx).1
      simp only [slices_IndexFunc_impl_areSamples_1_s1, decide_eq_true_eq]
      rw [if_pos (by omega), getI_nat, hx]
      simp only [Option.bind_some]
      split <;> rfl) (by
      simp only [slices_IndexFunc_impl_areSamples_1_s1, decide_eq_true_eq]
      rw [if_neg (by omega)]) hl
  rw [h1]
  simp only [Option.bind_some, h2, List.not_any_eq_all_not]
  congr 2
  funext x
  simp only [impl_areSamples_1, impl_isSample, impl_inRange_eq, Bool.not_not]
theorem lap_same {s : SLap} (h1 : (s.Half.length : Int) ≤ maxI) (h2 : (s.Rest.length : Int) ≤ maxI) : ∃ c, spec_LapFault s = some c ∧ impl_LapFault s = some c := by
  unfold spec_LapFault impl_LapFault
  simp only [spec_LapFault_u1, spec_LapFault_u2, impl_LapFault_u1, allWithin_eq (k := 65536) (by omega) h1, areSamples_eq h2, l1All_all h1, l1All_all h2, size_same, impl_halfOf, impl_codeIf_eq, Option.bind_some]
  generalize (s.Half.all fun x => decide (-65536 ≤ x ∧ x ≤ 65536)) = A
  generalize (s.Rest.all fun x => decide (-32768 ≤ x ∧ x ≤ 32767)) = B
  generalize IntKind.i64.wrap (s.Size.tdiv 2) = w
  have ha : ∀ a b c : Int, impl_first [a, b, c] = some (firstL [a, b, c]) := fun a b c => impl_first_eq (by simp [maxI])
  simp only [ha, Option.bind_some, bne]
  generalize ((s.Half.length : Int) == w) = b1
  generalize ((s.Rest.length : Int) == w) = b2
  rcases size_cases (n := s.Size) with hz | hz <;> rw [hz] <;> cases A <;> cases B <;> cases b1 <;> cases b2 <;> exact ⟨_, rfl, rfl⟩
theorem anchorGains_eq {l : List Int} (hl : (l.length : Int) ≤ maxI) : slices_ContainsFunc_impl_AnchorFault_1 l = some (!l.all fun x => decide (0 ≤ x ∧ x ≤ 65535)) := by
  unfold slices_ContainsFunc_impl_AnchorFault_1 slices_IndexFunc_impl_AnchorFault_1
  obtain ⟨r, h1, h2⟩ := find_loop (l := l) (fun x => impl_AnchorFault_1 x) (step := slices_IndexFunc_impl_AnchorFault_1_s1 l (l.length : Int)) (fun i x hx => by
      have hi : i < l.length := (List.getElem?_eq_some_iff.1 hx).1
      simp only [slices_IndexFunc_impl_AnchorFault_1_s1, decide_eq_true_eq]
      rw [if_pos (by omega), getI_nat, hx]
      simp only [Option.bind_some]
      split <;> rfl) (by
      simp only [slices_IndexFunc_impl_AnchorFault_1_s1, decide_eq_true_eq]
      rw [if_neg (by omega)]) hl
  rw [h1]
  simp only [Option.bind_some, h2, List.not_all_eq_any_not]
  congr 2
  funext x
  simp only [impl_AnchorFault_1, impl_inRange_eq]
theorem anchor_same {s : SAnchor} (h1 : (s.Gains.length : Int) ≤ maxI) : ∃ c, spec_AnchorFault s = some c ∧ impl_AnchorFault s = some c := by
  unfold spec_AnchorFault impl_AnchorFault
  have ha : ∀ a b c : Int, impl_first [a, b, c] = some (firstL [a, b, c]) := fun a b c => impl_first_eq (by simp [maxI])
  have hb : ((if decide ((s.Gains.length : Int) < 1) = true then true else decide ((s.Gains.length : Int) > 2)) : Bool) = !decide (1 ≤ (s.Gains.length : Int) ∧ (s.Gains.length : Int) ≤ 2) := by
    by_cases q1 : (s.Gains.length : Int) < 1
    · rw [if_pos (decide_eq_true q1), decide_eq_false (by omega)]; rfl
    · rw [if_neg (by simpa using q1)]
      by_cases q2 : (s.Gains.length : Int) > 2
      · rw [decide_eq_true q2, decide_eq_false (by omega)]; rfl
      · rw [decide_eq_false q2, decide_eq_true (by omega)]; rfl
  simp only [spec_AnchorFault_u1, spec_AnchorFault_u2, spec_AnchorFault_u3, impl_AnchorFault_u1, impl_AnchorFault_u2, anchorGains_eq h1, l1All_all h1, impl_isNumber, impl_isRung, spec_l14Number, spec_l9Rung, spec_l1In_eq, impl_inRange_eq, impl_codeIf_eq, Option.bind_some, hb, ha]
  generalize (s.Gains.all fun x => decide (0 ≤ x ∧ x ≤ 65535)) = A
  generalize decide (1 ≤ (s.Gains.length : Int) ∧ (s.Gains.length : Int) ≤ 2) = b1
  generalize decide (0 ≤ s.Number ∧ s.Number ≤ 9999) = b2
  generalize decide (0 ≤ s.Rung ∧ s.Rung ≤ 47) = b3
  cases s.Known
  · by_cases b4 : 0 < s.Gains.length <;> by_cases b5 : s.Number = 0 <;> by_cases b6 : s.Rung = 0 <;> simp [b4, b5, b6]
  · cases A <;> cases b1 <;> cases b2 <;> cases b3 <;> exact ⟨_, rfl, rfl⟩
theorem laws_toLap_eq {s : SLap} (h1 : (s.Half.length : Int) ≤ 35184372088832) (h2 : (s.Rest.length : Int) ≤ 35184372088832) : laws_toLap s = some s := by
  unfold laws_toLap
  rw [laws_toInt64S_eq h1, laws_toInt64S_eq h2]; rfl
theorem laws_toAnchor_eq {s : SAnchor} (h1 : (s.Gains.length : Int) ≤ 35184372088832) : laws_toAnchor s = some s := by
  unfold laws_toAnchor
  rw [laws_toInt64S_eq h1]; rfl
theorem laws_szInt64S_spec {l : List Int} {n : Int} (hn : n ≤ 1048576) (hl : (l.length : Int) ≤ maxI) (h : 0 ≤ n) : (laws_szInt64S l n < 0 ∨ laws_szInt64S l n = n - l.length) := by
  unfold maxI at hl
  simp only [laws_szInt64S, decide_eq_true_eq]
  rw [w64 (by omega)]
  split
  · left; omega
  · right; rfl
theorem laws_szLap_spec {s : SLap} {n : Int} (hn : n ≤ 1048576) (h1 : (s.Half.length : Int) ≤ maxI) (h2 : (s.Rest.length : Int) ≤ maxI) (h : 0 ≤ n) : laws_szLap s n < 0 ∨ laws_szLap s n = n - s.Half.length - s.Rest.length := by
  simp only [laws_szLap, decide_eq_true_eq]
  split
  · left; omega
  · rename_i q
    rcases laws_szInt64S_spec hn h1 h with e | e
    · omega
    · rw [e] at q ⊢
      rcases laws_szInt64S_spec (n := n - s.Half.length) (by omega) h2 (by omega) with e2 | e2
      · left; rw [if_pos e2]; omega
      · rw [e2]; split
        · left; omega
        · right; rfl
theorem laws_szAnchor_spec {s : SAnchor} {n : Int} (hn : n ≤ 1048576) (h1 : (s.Gains.length : Int) ≤ maxI) (h : 0 ≤ n) : laws_szAnchor s n < 0 ∨ laws_szAnchor s n = n - s.Gains.length := by
  simp only [laws_szAnchor, decide_eq_true_eq]
  rcases laws_szInt64S_spec hn h1 h with e | e
  · left; rw [if_pos e]; omega
  · rw [e]; split
    · left; omega
    · right; rfl
theorem laws_szSender_spec {s : SSender} {n : Int} (hn : n ≤ 1048576) (w : s.Wf) (h : 0 ≤ n) : laws_szSender s n < 0 ∨ laws_szSender s n = n - s.Lap.Half.length - s.Lap.Rest.length - s.A.Gains.length - s.B.Gains.length := by
  obtain ⟨_, _, _, _, ⟨_, w1, w2⟩, ⟨_, _, _, w3⟩, ⟨_, _, _, w4⟩, _⟩ := w
  simp only [laws_szSender, decide_eq_true_eq]
  split
  · left; omega
  · rename_i q
    rcases laws_szLap_spec hn w1.1 w2.1 h with e | e
    · omega
    · rw [e] at q ⊢
      rcases laws_szAnchor_spec (s := s.A) (n := n - s.Lap.Half.length - s.Lap.Rest.length) (by omega) w3.1 (by omega) with e2 | e2
      · left; rw [if_pos e2]; omega
      · rw [e2]
        split
        · left; omega
        · rcases laws_szAnchor_spec (s := s.B) (n := n - s.Lap.Half.length - s.Lap.Rest.length - s.A.Gains.length) (by omega) w4.1 (by omega) with e3 | e3
          · left; rw [if_pos e3]; omega
          · rw [e3]; split
            · left; omega
            · right; rfl
theorem laws_toSender_eq {s : SSender} (w : s.Wf) (h : ¬ laws_szSender s 1048576 < 0) : laws_toSender s = some s := by
  have h0 := laws_szSender_spec (n := 1048576) (by omega) w (by omega)
  unfold laws_toSender
  rw [laws_toLap_eq (by omega) (by omega), laws_toAnchor_eq (by omega), laws_toAnchor_eq (by omega)]; rfl
theorem laws_eqLap_self {s : SLap} (h1 : (s.Half.length : Int) ≤ maxI) (h2 : (s.Rest.length : Int) ≤ maxI) : laws_eqLap s s = some true := by
  unfold laws_eqLap
  rw [laws_eqInt64S_self h1, laws_eqInt64S_self h2]; simp
theorem laws_eqAnchor_self {s : SAnchor} (h1 : (s.Gains.length : Int) ≤ maxI) : laws_eqAnchor s s = some true := by
  unfold laws_eqAnchor
  rw [laws_eqInt64S_self h1]; simp
theorem laws_eqSender_self {s : SSender} (w : s.Wf) : laws_eqSender s s = some true := by
  obtain ⟨_, _, _, _, ⟨_, w1, w2⟩, ⟨_, _, _, w3⟩, ⟨_, _, _, w4⟩, _⟩ := w
  unfold laws_eqSender
  rw [laws_eqLap_self w1.1 w2.1, laws_eqAnchor_self w3.1, laws_eqAnchor_self w4.1]; simp
theorem sender_same {s : SSender} (w : s.Wf) : ∃ c, spec_SenderFault s = some c ∧ impl_SenderFault s = some c := by
  obtain ⟨_, _, _, _, ⟨_, w1, w2⟩, ⟨_, _, _, w3⟩, ⟨_, _, _, w4⟩, _⟩ := w
  obtain ⟨c1, p1, q1⟩ := lap_same w1.1 w2.1
  obtain ⟨c2, p2, q2⟩ := anchor_same w3.1
  obtain ⟨c3, p3, q3⟩ := anchor_same w4.1
  unfold spec_SenderFault impl_SenderFault
  rw [p1, p2, p3, q1, q2, q3]
  simp only [Option.bind_some]
  rw [impl_first_eq (by simp [maxI])]
  simp only [Option.bind_some, spec_SenderFault_u1, impl_SenderFault_u1, spec_l17Terms, spec_l17Terms_u1, impl_rateFault, impl_rateFault_u1, spec_l1In_eq, impl_inRange_eq, impl_codeIf_eq, size_same, firstL, bne]
  generalize decide (24 ≤ s.Budget ∧ s.Budget ≤ 160) = b1
  generalize decide (1 ≤ s.Refresh ∧ s.Refresh ≤ 50) = b2
  generalize decide (0 ≤ s.Number ∧ s.Number ≤ 10000) = b3
  generalize decide (0 ≤ s.SinceA ∧ s.SinceA ≤ 50) = b4
  generalize decide (0 ≤ s.SinceB ∧ s.SinceB ≤ 50) = b5
  rcases size_cases (n := s.Size) with hz | hz <;> simp only [hz]
  · cases b1 <;> cases b2 <;> cases b3 <;> cases b4 <;> cases b5 <;> (first | exact ⟨_, rfl, rfl⟩ | skip)
    by_cases k1 : c1 = 0
    · by_cases b6 : s.Lap.Size = s.Size <;> by_cases k2 : c2 = 0 <;> by_cases k3 : c3 = 0 <;> simp [k1, k2, k3, b6]
    · simp [k1]
  · exact ⟨_, rfl, rfl⟩
theorem sender_number {s : SSender} (h : spec_SenderFault s = some 0) : 0 ≤ s.Number ∧ s.Number ≤ 10000 := by
  rcases Classical.em (0 ≤ s.Number ∧ s.Number ≤ 10000) with q | q
  · exact q
  · exfalso
    unfold spec_SenderFault at h
    have e : ∀ a1 a2 a3 a5 a6 a7 a8 a9 a10 a11 a12 a13 a14 a15 a16 a17, spec_SenderFault_u1 a1 a2 a3 s.Number a5 a6 a7 a8 a9 a10 a11 a12 a13 a14 a15 a16 a17 = true := by
      intros
      simp only [spec_SenderFault_u1, spec_l1In_eq, decide_eq_false q]
      split <;> simp
    simp only [e, if_true] at h
    rcases size_cases (n := s.Size) with hz | hz <;> rw [hz] at h <;> simp at h
theorem precedes_same {a : SAnchor} {n k : Int} (ha : WfI .i64 a.Number) (hn : 0 ≤ n ∧ n ≤ 10000) : impl_Anchor_precedes a n k = spec_l16Ahead a n k := by
  have h := wfI64.1 ha
  have hb : impl_bandsOf k = spec_l13Bands k := rfl
  have e : (IntKind.i64.wrap (a.Number + 1) == n) = (a.Number == IntKind.i64.wrap (n - 1)) := by
    rw [Bool.eq_iff_iff, beq_iff_eq, beq_iff_eq, w64 (n := n - 1) (by omega), IntKind.wrap_i64]
    omega
  unfold impl_Anchor_precedes spec_l16Ahead
  simp only [impl_Anchor_precedes_u1, spec_l16Ahead_u1, hb, e]
theorem plan_fault_same {p : SPlan} : impl_PlanFault p = spec_PlanFault p ∧ (spec_PlanFault p = 0 ∨ spec_PlanFault p = 3) := by
  unfold impl_PlanFault spec_PlanFault
  simp only [impl_PlanFault_u1, spec_PlanFault_u1, impl_isSpread, spec_l10Spread, impl_inRange_eq, spec_l1In_eq, impl_codeIf_eq]
  generalize decide (0 ≤ p.Spread ∧ p.Spread ≤ 2) = b1
  generalize decide (1 ≤ p.Paths ∧ p.Paths ≤ 3) = b2
  cases b1 <;> cases b2 <;> simp
theorem intraSides_same {s : SSender} {p : SPlan} (w : s.Wf) : ∃ r, spec_IntraSides s p = some r ∧ impl_IntraSides s p = some r := by
  obtain ⟨c, h1, h2⟩ := sender_same w
  obtain ⟨e, hp⟩ := plan_fault_same (p := p)
  unfold spec_IntraSides impl_IntraSides
  rw [h1, h2]
  simp only [Option.bind_some, e]
  rw [impl_first_eq (by simp [maxI])]
  simp only [Option.bind_some, firstL]
  by_cases hc : c = 0
  · subst hc
    rcases hp with hp | hp
    · have hn := sender_number h1
      obtain ⟨_, _, _, _, _, ⟨_, wa, _⟩, ⟨_, wb, _⟩, _⟩ := w
      have eA : (SAnchor.mk s.A.Known s.A.Number s.A.Rung s.A.Gains) = s.A := rfl
      have eB : (SAnchor.mk s.B.Known s.B.Number s.B.Rung s.B.Gains) = s.B := rfl
      simp only [hp, impl_Sender_intra, impl_Sender_intra_u1, impl_Sender_intra_1, impl_Sender_intra_1_u1, spec_l17Intra, spec_l17Intra_u1, eA, eB, precedes_same wa hn, precedes_same wb hn, spec_IntraSides_u1, spec_IntraSides_u2, impl_codeIf_eq]
      generalize (if p.IntraA = true then true else if spec_l16Ahead s.A s.Number s.Size = true then decide (s.SinceA ≥ IntKind.i64.wrap (s.Refresh - 1)) else true) = A
      generalize (if p.IntraB = true then true else if spec_l16Ahead s.B s.Number s.Size = true then decide (s.SinceB ≥ IntKind.i64.wrap (s.Refresh - 1)) else true) = B
      cases A <;> cases B <;> simp [w64]
    · simp [hp]
  · simp [hc]
--REST0
theorem pure (s : SSender) (p : SPlan) (w : s.Wf) (wp : p.Wf) : laws_FnExactIntraSides s p = some true := by
  unfold laws_FnExactIntraSides
  simp only [decide_eq_true_eq]
  split
  · rfl
  · rename_i h
    obtain ⟨r, h1, h2⟩ := intraSides_same (p := p) w
    have hs := laws_toSender_eq w h
    simp only [laws_FnExactIntraSides_u1, laws_FnExactIntraSides_u2]
    have hs' : laws_toSender ⟨s.Size, s.Budget, s.Refresh, s.Number, ⟨s.Lap.Size, s.Lap.Half, s.Lap.Rest⟩, ⟨s.A.Known, s.A.Number, s.A.Rung, s.A.Gains⟩, ⟨s.B.Known, s.B.Number, s.B.Rung, s.B.Gains⟩, s.SinceA, s.SinceB⟩ = some s := hs
    have ht : laws_toPlan ⟨p.Spread, p.Paths, p.IntraA, p.IntraB⟩ = p := rfl
    rw [hs']
    simp only [Option.bind_some, hs, ht, h1]
    have h2' : impl_IntraSides ⟨s.Size, s.Budget, s.Refresh, s.Number, ⟨s.Lap.Size, s.Lap.Half, s.Lap.Rest⟩, ⟨s.A.Known, s.A.Number, s.A.Rung, s.A.Gains⟩, ⟨s.B.Known, s.B.Number, s.B.Rung, s.B.Gains⟩, s.SinceA, s.SinceB⟩ p = some r := h2
    rw [h2']
    simp only [Option.bind_some, laws_eqSender_self w]
    simp [laws_eqIntResult]
end FnExactIntraSides
end Go.Proofs.Ytajlapiocnanbaa.Wm
