/- What FnExactReferenceOf comes to on plain values: true. -/
import Derived.Test.YtpioljlgmhehhaaGreatFnBFnExactReferenceOf
set_option linter.unusedSimpArgs false
set_option linter.unusedVariables false
set_option maxRecDepth 100000
namespace Go.Proofs.YtpioljlgmhehhaaGreat.Wm
open Go
namespace FnExactReferenceOf
theorem laws_toInt64S_eq {l : List Int} (hl : (l.length : Int) ≤ 35184372088832) : laws_toInt64S l = some l := by
  unfold laws_toInt64S
  rw [if_pos (okMake_8 (by omega) hl), Int.toNat_natCast]
  obtain ⟨t, h1, rfl⟩ := loop_rule (step := laws_toInt64S_s1 l) (fun i s => s.2 = i ∧ s.1.length = l.length ∧ ∀ j, j < i → s.1[j]? = l[j]?) (fun t => t = l) l.length (by
    rintro i ⟨a, k⟩ hi ⟨hk, ha, hj⟩
    simp only at hk ha hj
    subst hk
    simp only [laws_toInt64S_s1, decide_eq_true_eq]
    rcases Nat.lt_or_ge i l.length with h | h
    · left
      obtain ⟨x, hx, _⟩ := get_lt h
      obtain ⟨y, hy, _⟩ := get_lt (l := a) (i := i) (by omega)
      rw [if_pos (by omega), getI_nat, hx, getI_nat, hy, Int.toNat_natCast, hy, w64 (by omega)]
      refine ⟨h, _, rfl, by simp, by simp [ha], fun j hj' => ?_⟩
      simp only [List.getElem?_set]
      split
      · rename_i e; subst e; rw [if_pos (by omega), hx]
      · exact hj j (by omega)
    · right
      rw [if_neg (by omega)]
      exact ⟨a, rfl, list_ext ha fun j hj' => hj j (by omega)⟩) (s := (List.replicate l.length 0, 0)) ⟨rfl, by simp, fun j hj => by omega⟩
  rw [h1]; rfl
theorem laws_eqInt64S_self {l : List Int} (hl : (l.length : Int) ≤ maxI) : laws_eqInt64S l l = some true := by
  unfold maxI at hl
  unfold laws_eqInt64S
  rw [if_neg (by simp)]
  obtain ⟨t, h1, rfl⟩ := loop_rule (step := laws_eqInt64S_s1 l l) (fun i s => s = (i : Int)) (fun t => t = .inl ()) l.length (by
    rintro i s hi rfl
    simp only [laws_eqInt64S_s1, decide_eq_true_eq]
    rcases Nat.lt_or_ge i l.length with h | h
    · left
      obtain ⟨x, hx, _⟩ := get_lt h
      rw [if_pos (by omega), getI_nat, hx, w64 (by omega)]
      simp only [Option.bind_some, bne_self_eq_false, Bool.false_eq_true, if_false]
      exact ⟨h, _, rfl, by simp⟩
    · right
      rw [if_neg (by omega)]
      exact ⟨_, rfl, rfl⟩) (s := 0) rfl
  rw [h1]; rfl
theorem laws_heldInt64S_eq {l : List Int} {k : Int} (hk : 0 ≤ k) (hs : k + l.length ≤ maxI) (h : ∀ (j : Nat), j < l.length → l[j]? = some (k + j)) : laws_heldInt64S l k = some (k + l.length) := by
  unfold maxI at hs
  unfold laws_heldInt64S
  obtain ⟨t, h1, rfl⟩ := loop_rule (step := laws_heldInt64S_s1 l) (fun i s => s = (k + (i : Int), (i : Int))) (fun t => t = .inl (k + (l.length : Int))) l.length (by
    rintro i s hi rfl
    simp only [laws_heldInt64S_s1, decide_eq_true_eq]
    rcases Nat.lt_or_ge i l.length with hh | hh
    · left
      rw [if_pos (by omega), getI_nat, h i hh, w64 (by omega), w64 (by omega)]
      simp only [Option.bind_some, bne_self_eq_false, Bool.false_eq_true, if_false]
      exact ⟨hh, _, rfl, by simp only [Prod.mk.injEq]; omega⟩
    · right
      obtain rfl : i = l.length := by omega
      rw [if_neg (by omega)]
      exact ⟨_, rfl, rfl⟩) (s := (k, 0)) (by simp)
  rw [h1]; rfl
theorem laws_markInt64S_eq {l : List Int} {k : Int} (hk : 0 ≤ k) (hs : k + l.length ≤ maxI) : ∃ l', laws_markInt64S l k = some (k + l.length, l') ∧ l'.length = l.length ∧ laws_heldInt64S l' k = some (k + l.length) := by
  have hs' := hs
  unfold maxI at hs
  unfold laws_markInt64S
  obtain ⟨t, h1, h2, h3, h4⟩ := loop_rule (step := laws_markInt64S_s1) (fun i s => s.2.1 = k + (i : Int) ∧ s.2.2 = (i : Int) ∧ s.1.length = l.length ∧ ∀ (j : Nat), j < i → s.1[j]? = some (k + j)) (fun t => t.2 = k + (l.length : Int) ∧ t.1.length = l.length ∧ ∀ (j : Nat), j < l.length → t.1[j]? = some (k + j)) l.length (by
    rintro i ⟨a, m, n⟩ hi ⟨hm, hn, ha, hj⟩
    simp only at hm hn ha hj
    subst hm; subst hn
    simp only [laws_markInt64S_s1, decide_eq_true_eq]
    rcases Nat.lt_or_ge i l.length with hh | hh
    · left
      obtain ⟨y, hy, _⟩ := get_lt (l := a) (i := i) (by omega)
      rw [if_pos (by omega), getI_nat, hy, Int.toNat_natCast, hy, w64 (by omega), w64 (by omega)]
      refine ⟨hh, _, rfl, by simp; omega, by simp, by simp [ha], fun j hj' => ?_⟩
      simp only [List.getElem?_set]
      split
      · rename_i e; subst e; rw [if_pos (by omega)]
      · exact hj j (by omega)
    · right
      obtain rfl : i = l.length := by omega
      rw [if_neg (by omega)]
      exact ⟨_, rfl, rfl, ha, hj⟩) (s := (l, k, 0)) ⟨by simp, rfl, rfl, fun j hj => by omega⟩
  rw [h1]
  obtain ⟨a, b⟩ := t
  simp only at h2 h3 h4
  subst h2
  refine ⟨a, rfl, h3, ?_⟩
  have := laws_heldInt64S_eq (l := a) hk (by rw [h3]; exact hs') (by rw [h3]; exact h4)
  rw [h3] at this
  exact this
theorem impl_inRange_eq {a b c : Int} : impl_inRange a b c = decide (b ≤ a ∧ a ≤ c) := by
  simp only [impl_inRange, impl_inRange_u1, decide_eq_true_eq]
  by_cases h1 : b ≤ a <;> by_cases h2 : a ≤ c <;> simp [h1, h2]
def firstL : List Int → Int
  | [] => 0
  | x :: l => if x ≠ 0 then x else firstL l
theorem firstL_skip : ∀ {i : Nat} {l : List Int}, (∀ j x, j < i → l[j]? = some x → x = 0) → firstL l = firstL (l.drop i)
  | 0, l, h => by simp
  | i + 1, [], h => by simp
  | i + 1, x :: l, h => by
    have := h 0 x (by omega) rfl
    subst this
    simp only [firstL, ne_eq, not_true, if_false, List.drop_succ_cons]
    exact firstL_skip fun j x hj hx => h (j + 1) x (by omega) (by simpa using hx)
theorem impl_first_eq {l : List Int} (hl : (l.length : Int) ≤ maxI) : impl_first l = some (firstL l) := by
  unfold maxI at hl
  unfold impl_first
  obtain ⟨t, h1, h2⟩ := loop_rule (step := impl_first_s1 l (l.length : Int)) (fun i s => s = (i : Int) ∧ ∀ j x, j < i → l[j]? = some x → x = 0)
      (fun t => (t = .inl () ∧ firstL l = 0) ∨ (t = .inr (firstL l))) l.length (by
    rintro i s hi ⟨rfl, hj⟩
    simp only [impl_first_s1, decide_eq_true_eq]
    rcases Nat.lt_or_ge i l.length with h | h
    · obtain ⟨x, hx, hm⟩ := get_lt h
      rw [if_pos (by omega), getI_nat, hx, w64 (by omega)]
      simp only [Option.bind_some, bne_iff_ne, ne_eq]
      by_cases hp : x = 0
      · left
        rw [if_neg (by simp [hp])]
        refine ⟨h, _, rfl, by simp, fun j y hj' hy => ?_⟩
        rcases Nat.lt_or_ge j i with hji | hji
        · exact hj j y hji hy
        · obtain rfl : j = i := by omega
          rw [hx] at hy; obtain rfl := Option.some.inj hy; exact hp
      · right
        rw [if_pos hp]
        refine ⟨_, rfl, .inr ?_⟩
        rw [firstL_skip hj, List.drop_eq_getElem_cons h, firstL]
        have : l[i] = x := by rw [List.getElem?_eq_getElem h] at hx; exact Option.some.inj hx
        rw [this, if_pos hp]
    · right
      rw [if_neg (by omega)]
      refine ⟨_, rfl, .inl ⟨rfl, ?_⟩⟩
      rw [firstL_skip hj, List.drop_eq_nil_of_le h]; rfl) (s := 0) ⟨rfl, fun j x hj => by omega⟩
  rw [h1]
  rcases h2 with ⟨rfl, h⟩ | rfl
  · simp [h]
  · simp
theorem impl_codeIf_eq {b : Bool} {c : Int} : impl_codeIf b c = if b = true then c else 0 := rfl
theorem size_same {n : Int} : impl_SizeFault n = spec_SizeFault n := rfl
theorem size_cases {n : Int} : spec_SizeFault n = 0 ∨ spec_SizeFault n = 3 := by
  unfold spec_SizeFault
  simp only []
  split
  · exact .inr rfl
  · exact .inl rfl
theorem spec_l1In_eq {a b c : Int} : spec_l1In a b c = decide (b ≤ a ∧ a ≤ c) := by
  simp only [spec_l1In, spec_l1In_u1, decide_eq_true_eq]
  by_cases h1 : b ≤ a <;> by_cases h2 : a ≤ c <;> simp [h1, h2]
theorem spec_l1All_eq {l : List Int} {a b : Int} (hl : (l.length : Int) ≤ maxI) : spec_l1All l a b = some (decide (∀ x ∈ l, a ≤ x ∧ x ≤ b)) := by
  unfold maxI at hl
  unfold spec_l1All
  obtain ⟨t, h1, h2⟩ := loop_rule (step := spec_l1All_s1 l a b) (fun i s => s = (i : Int) ∧ ∀ j x, j < i → l[j]? = some x → a ≤ x ∧ x ≤ b)
      (fun t => (t = .inl () ∧ ∀ x ∈ l, a ≤ x ∧ x ≤ b) ∨ (t = .inr () ∧ ∃ x ∈ l, ¬ (a ≤ x ∧ x ≤ b))) l.length (by
    rintro i s hi ⟨rfl, hj⟩
    simp only [spec_l1All_s1, decide_eq_true_eq]
    rcases Nat.lt_or_ge i l.length with h | h
    · obtain ⟨x, hx, hm⟩ := get_lt h
      rw [if_pos (by omega), getI_nat, hx, w64 (by omega)]
      simp only [Option.bind_some, spec_l1In_eq, decide_eq_true_eq]
      by_cases hp : a ≤ x ∧ x ≤ b
      · left
        rw [if_pos hp]
        refine ⟨h, _, rfl, by simp, fun j y hj' hy => ?_⟩
        rcases Nat.lt_or_ge j i with hji | hji
        · exact hj j y hji hy
        · obtain rfl : j = i := by omega
          rw [hx] at hy; obtain rfl := Option.some.inj hy; exact hp
      · right
        rw [if_neg hp]
        exact ⟨_, rfl, .inr ⟨rfl, x, hm, hp⟩⟩
    · right
      rw [if_neg (by omega)]
      refine ⟨_, rfl, .inl ⟨rfl, fun x hx => ?_⟩⟩
      obtain ⟨j, hj'⟩ := List.getElem?_of_mem hx
      exact hj j x (by have := (List.getElem?_eq_some_iff.1 hj').1; omega) hj') (s := 0) ⟨rfl, fun j x hj => by omega⟩
  rw [h1]
  rcases h2 with ⟨rfl, h⟩ | ⟨rfl, x, hx, h⟩
  · simp only [Option.bind_some, Sum.elim_inl, Option.some.injEq]; exact (decide_eq_true h).symm
  · simp only [Option.bind_some, Sum.elim_inr, Option.some.injEq]; exact (decide_eq_false fun hh => h (hh x hx)).symm
theorem l1All_all {l : List Int} {a b : Int} (hl : (l.length : Int) ≤ maxI) : spec_l1All l a b = some (l.all fun x => decide (a ≤ x ∧ x ≤ b)) := by
  rw [spec_l1All_eq hl]
  congr 1
  rw [Bool.eq_iff_iff]
  simp
theorem loop_same {ς τ : Type} {step1 step2 : ς → Option (ς ⊕ τ)} (I : Nat → ς → Prop) (Q : τ → Prop) (n : Nat)
    (h : ∀ i s, i ≤ n → I i s → step1 s = step2 s ∧ ((i < n ∧ ∃ s', step2 s = some (.inl s') ∧ I (i + 1) s') ∨ ∃ t, step2 s = some (.inr t) ∧ Q t)) {s : ς} (h0 : I 0 s) : ∃ t, loopO step1 s = some t ∧ loopO step2 s = some t ∧ Q t := by
  have key : ∀ m i s, n - i = m → i ≤ n → I i s → ∃ t, loopO step1 s = some t ∧ loopO step2 s = some t ∧ Q t := by
    intro m
    induction m with
    | zero =>
      intro i s hm hi hI
      obtain ⟨e, h | ⟨t, h1, h2⟩⟩ := h i s hi hI
      · omega
      · exact ⟨t, by rw [loopO_eq, e, h1], by rw [loopO_eq, h1], h2⟩
    | succ m ih =>
      intro i s hm hi hI
      obtain ⟨e, ⟨h1, s', h2, h3⟩ | ⟨t, h1, h2⟩⟩ := h i s hi hI
      · obtain ⟨t, k1, k2, k3⟩ := ih (i + 1) s' (by omega) (by omega) h3
        exact ⟨t, by rw [loopO_eq, e, h2]; exact k1, by rw [loopO_eq, h2]; exact k2, k3⟩
      · exact ⟨t, by rw [loopO_eq, e, h1], by rw [loopO_eq, h1], h2⟩
  exact key (n - 0) 0 s rfl (Nat.zero_le _) h0
theorem allWithin_eq {l : List Int} {k : Int} (hk : 0 ≤ k ∧ k ≤ 1152921504606846976) (hl : (l.length : Int) ≤ maxI) : impl_allWithin l k = some (l.all fun x => decide (-k ≤ x ∧ x ≤ k)) := by
  unfold impl_allWithin slices_ContainsFunc_int64_impl_allWithin_1 slices_IndexFunc_int64_impl_allWithin_1
  obtain ⟨r, h1, h2⟩ := find_loop (l := l) (fun x => impl_allWithin_1 x k) (step := slices_IndexFunc_int64_impl_allWithin_1_s1 l k (l.length : Int)) (fun i x hx => by
      have hi : i < l.length := (List.getElem?_eq_some_iff.1 hx).1
      simp only [slices_IndexFunc_int64_impl_allWithin_1_s1, decide_eq_true_eq]
      rw [if_pos (by omega), getI_nat, hx]
      simp only [Option.bind_some]
      split <;> rfl) (by
      simp only [slices_IndexFunc_int64_impl_allWithin_1_s1, decide_eq_true_eq]
      rw [if_neg (by omega)]) hl
  rw [h1]
  simp only [Option.bind_some, h2, List.not_any_eq_all_not]
  congr 2
  funext x
  simp only [impl_allWithin_1, impl_within, impl_inRange_eq, Bool.not_not]
  rw [w64 (by omega)]
  simp
def evens : List Int → List Int
  | [] => []
  | [x] => [x]
  | x :: _ :: l => x :: evens l
def odds : List Int → List Int
  | [] => []
  | [_] => []
  | _ :: y :: l => y :: odds l
theorem halves_spec : ∀ (h : Nat) (l : List Int), l.length = 2 * h → (evens l).length = h ∧ (odds l).length = h ∧ (∀ x ∈ evens l, x ∈ l) ∧ ∀ x ∈ odds l, x ∈ l
  | 0, l, hl => by obtain rfl := List.eq_nil_of_length_eq_zero (by omega); simp [evens, odds]
  | h + 1, [], hl => by simp at hl
  | h + 1, [x], hl => by simp at hl; omega
  | h + 1, x :: y :: l, hl => by
    obtain ⟨a, b, c, d⟩ := halves_spec h l (by simp at hl; omega)
    refine ⟨by simp [evens, a], by simp [odds, b], fun z hz => ?_, fun z hz => ?_⟩
    · simp only [evens, List.mem_cons] at hz
      rcases hz with rfl | hz
      · simp
      · have := c z hz; simp [this]
    · simp only [odds, List.mem_cons] at hz
      rcases hz with rfl | hz
      · simp
      · have := d z hz; simp [this]
/-- A list parted by the parity of the places, two places a round. -/
theorem part_loop2 {l : List Int} {step : (List Int × List Int × Int) → Option ((List Int × List Int × Int) ⊕ (List Int × List Int))} (hl : l.length ≤ 1000000)
    (h1 : ∀ (a b : List Int) (i : Nat) (x y : Int), i + 1 < l.length → l[i]? = some x → l[i + 1]? = some y → a.length ≤ l.length → b.length ≤ l.length → step (a, b, (i : Int)) = some (.inl (a ++ [x], b ++ [y], (i : Int) + 2)))
    (h2 : ∀ (a b : List Int), step (a, b, (l.length : Int)) = some (.inr (a, b))) :
    ∀ (h : Nat) (t pre a b : List Int), l = pre ++ t → t.length = 2 * h → a.length + t.length ≤ l.length → b.length + t.length ≤ l.length → loopO step (a, b, (pre.length : Int)) = some (a ++ evens t, b ++ odds t)
  | 0, t, pre, a, b, e, ht, ha, hb => by
    obtain rfl := List.eq_nil_of_length_eq_zero (l := t) (by omega)
    simp only [List.append_nil] at e
    subst e
    rw [loopO_eq, h2]; simp [evens, odds]
  | h + 1, [], pre, a, b, e, ht, ha, hb => by simp at ht
  | h + 1, [x], pre, a, b, e, ht, ha, hb => by simp at ht; omega
  | h + 1, x :: y :: t, pre, a, b, e, ht, ha, hb => by
    have hlen : l.length = pre.length + (t.length + 2) := by rw [e]; simp
    simp only [List.length_cons] at ht ha hb
    rw [loopO_eq, h1 a b pre.length x y (by omega) (by rw [e]; simp) (by rw [e, List.getElem?_append_right (by omega)]; simp) (by omega) (by omega)]
    have e2 : l = (pre ++ [x, y]) ++ t := by rw [e]; simp
    have := part_loop2 hl h1 h2 h t (pre ++ [x, y]) (a ++ [x]) (b ++ [y]) e2 (by omega) (by simp; omega) (by simp; omega)
    simp only [List.length_append, List.length_cons, List.length_nil] at this
    have ec : ((pre.length + (0 + 1 + 1) : Nat) : Int) = (pre.length : Int) + 2 := by omega
    rw [ec] at this
    simp only []
    rw [this]
    simp [evens, odds]
/-- The same, one place a round. -/
theorem part_loop1 {l : List Int} {step : (List Int × List Int × Int) → Option ((List Int × List Int × Int) ⊕ (List Int × List Int))} (hl : l.length ≤ 1000000)
    (h1 : ∀ (a b : List Int) (i : Nat) (x : Int), l[i]? = some x → a.length ≤ l.length → b.length ≤ l.length → step (a, b, (i : Int)) = some (.inl (if i % 2 = 0 then (a ++ [x], b, (i : Int) + 1) else (a, b ++ [x], (i : Int) + 1))))
    (h2 : ∀ (a b : List Int), step (a, b, (l.length : Int)) = some (.inr (a, b))) :
    ∀ (h : Nat) (t pre a b : List Int), l = pre ++ t → t.length = 2 * h → pre.length % 2 = 0 → a.length + t.length ≤ l.length → b.length + t.length ≤ l.length → loopO step (a, b, (pre.length : Int)) = some (a ++ evens t, b ++ odds t)
  | 0, t, pre, a, b, e, ht, hp, ha, hb => by
    obtain rfl := List.eq_nil_of_length_eq_zero (l := t) (by omega)
    simp only [List.append_nil] at e
    subst e
    rw [loopO_eq, h2]; simp [evens, odds]
  | h + 1, [], pre, a, b, e, ht, hp, ha, hb => by simp at ht
  | h + 1, [x], pre, a, b, e, ht, hp, ha, hb => by simp at ht; omega
  | h + 1, x :: y :: t, pre, a, b, e, ht, hp, ha, hb => by
    have hlen : l.length = pre.length + (t.length + 2) := by rw [e]; simp
    simp only [List.length_cons] at ht ha hb
    rw [loopO_eq, h1 a b pre.length x (by rw [e]; simp) (by omega) (by omega), if_pos hp]
    simp only []
    have e1 : (pre.length : Int) + 1 = ((pre.length + 1 : Nat) : Int) := by omega
    rw [e1, loopO_eq, h1 (a ++ [x]) b (pre.length + 1) y (by rw [e, List.getElem?_append_right (by omega)]; simp) (by simp; omega) (by omega), if_neg (by omega)]
    simp only []
    have e2 : l = (pre ++ [x, y]) ++ t := by rw [e]; simp
    have := part_loop1 hl h1 h2 h t (pre ++ [x, y]) (a ++ [x]) (b ++ [y]) e2 (by omega) (by simp; omega) (by simp; omega) (by simp; omega)
    simp only [List.length_append, List.length_cons, List.length_nil] at this
    have ec : ((pre.length + (0 + 1 + 1) : Nat) : Int) = ((pre.length + 1 : Nat) : Int) + 1 := by omega
    rw [ec] at this
    rw [this]
    simp [evens, odds]
theorem concat_eq {ls : List (List Int)} (hn : ls.length ≤ 1000) (hl : ∀ x ∈ ls, x.length ≤ 1000) : slices_Concat_int64 ls = some ls.flatten := by
  have hf : ∀ i, (ls.take i).flatten.length ≤ 1000 * i := by
    intro i
    induction i with
    | zero => simp
    | succ i ih =>
      rcases Nat.lt_or_ge i ls.length with h | h
      · rw [List.take_add_one, List.getElem?_eq_getElem h]
        have := hl ls[i] (List.getElem_mem h)
        simp only [Option.toList_some, List.flatten_append, List.length_append, List.flatten_cons, List.flatten_nil, List.append_nil]
        omega
      · rw [List.take_of_length_le (by omega)]
        rw [List.take_of_length_le h] at ih
        omega
  have hs : ∀ i (x : List Int), ls[i]? = some x → (ls.take (i + 1)).flatten = (ls.take i).flatten ++ x := fun i x hx => by
    rw [List.take_add_one, hx]; simp
  unfold slices_Concat_int64
  obtain ⟨t, h1, rfl⟩ := loop_rule (step := slices_Concat_int64_s5 ls (ls.length : Int)) (fun i s => s.2 = (i : Int) ∧ s.1 = ((ls.take i).flatten.length : Int)) (fun t => t = (ls.flatten.length : Int)) ls.length (by
    rintro i ⟨a, c⟩ hi ⟨hc, ha⟩
    simp only at hc ha
    subst hc ha
    simp only [slices_Concat_int64_s5, slices_Concat_int64_u4, slices_Concat_int64_u3, decide_eq_true_eq]
    rcases Nat.lt_or_ge i ls.length with h | h
    · left
      obtain ⟨x, hx, hm⟩ := get_lt h
      have hb := hf (i + 1)
      have hx' := hs i x hx
      have hlen : (ls.take (i + 1)).flatten.length = (ls.take i).flatten.length + x.length := by rw [hx']; simp
      rw [if_pos (by omega), getI_nat, hx]
      simp only [Option.bind_some]
      rw [w64 (n := ((ls.take i).flatten.length : Int) + x.length) (by omega), if_neg (by omega), w64 (n := (i : Int) + 1) (by omega)]
      exact ⟨h, _, rfl, by simp, by simp only []; omega⟩
    · right
      rw [if_neg (by omega)]
      refine ⟨_, rfl, ?_⟩
      rw [List.take_of_length_le h]) (s := (0, 0)) ⟨rfl, by simp⟩
  rw [h1]
  simp only [Option.bind_some]
  have htot := hf ls.length
  rw [List.take_of_length_le (Nat.le_refl _)] at htot
  unfold slices_Grow_int64
  rw [if_pos (show okGrow 8 (ls.flatten.length : Int) = true from decide_eq_true ⟨by omega, by omega, by omega⟩)]
  simp only [Option.bind_some]
  obtain ⟨t, h2, rfl⟩ := loop_rule (step := slices_Concat_int64_s6 ls (ls.length : Int)) (fun i s => s.2 = (i : Int) ∧ s.1 = (ls.take i).flatten) (fun t => t = ls.flatten) ls.length (by
    rintro i ⟨a, c⟩ hi ⟨hc, ha⟩
    simp only at hc ha
    subst hc ha
    simp only [slices_Concat_int64_s6, decide_eq_true_eq]
    rcases Nat.lt_or_ge i ls.length with h | h
    · left
      obtain ⟨x, hx, hm⟩ := get_lt h
      have hb := hf (i + 1)
      have hx' := hs i x hx
      rw [if_pos (by omega), getI_nat, hx]
      simp only [Option.bind_some]
      rw [if_pos (okApp_8 (by rw [← hx']; omega)), w64 (n := (i : Int) + 1) (by omega)]
      exact ⟨h, _, rfl, by simp, by simp only []; exact hx'.symm⟩
    · right
      rw [if_neg (by omega)]
      refine ⟨_, rfl, ?_⟩
      rw [List.take_of_length_le h]) (s := ([], 0)) ⟨rfl, by simp⟩
  rw [h2]
  rfl
/-- A rotation that there is. -/
def Rot (size n : Int) : Prop := (size = 4 ∧ 0 ≤ n ∧ n < 2) ∨ (size = 8 ∧ 0 ≤ n ∧ n < 4) ∨ (size = 16 ∧ 0 ≤ n ∧ n < 8)
theorem rot_cases {size n : Int} (h : Rot size n) : (size = 4 ∧ (n = 0 ∨ n = 1)) ∨ (size = 8 ∧ (n = 0 ∨ n = 1 ∨ n = 2 ∨ n = 3)) ∨ (size = 16 ∧ (n = 0 ∨ n = 1 ∨ n = 2 ∨ n = 3 ∨ n = 4 ∨ n = 5 ∨ n = 6 ∨ n = 7)) := by
  rcases h with ⟨h, a, b⟩ | ⟨h, a, b⟩ | ⟨h, a, b⟩
  · exact .inl ⟨h, by omega⟩
  · exact .inr (.inl ⟨h, by omega⟩)
  · exact .inr (.inr ⟨h, by omega⟩)
theorem rot_same {size n : Int} (h : Rot size n) : impl_turnOf size n = some ⟨spec_l5P size n, spec_l5U size n⟩ ∧ 0 ≤ spec_l5P size n ∧ spec_l5P size n ≤ 1000 ∧ 0 ≤ spec_l5U size n ∧ spec_l5U size n ≤ 1000 := by
  rcases rot_cases h with ⟨rfl, rfl | rfl⟩ | ⟨rfl, rfl | rfl | rfl | rfl⟩ | ⟨rfl, rfl | rfl | rfl | rfl | rfl | rfl | rfl | rfl⟩ <;> exact ⟨rfl, by decide⟩
theorem mulB {p b M : Int} (hp : 0 ≤ p ∧ p ≤ 1000) (hM : 0 ≤ M) (hb : -M ≤ b ∧ b ≤ M) : -(1000 * M) ≤ p * b ∧ p * b ≤ 1000 * M := by
  have h1 : p * b ≤ p * M := Int.mul_le_mul_of_nonneg_left hb.2 hp.1
  have h2 : p * (-M) ≤ p * b := Int.mul_le_mul_of_nonneg_left hb.1 hp.1
  have h3 : p * M ≤ 1000 * M := Int.mul_le_mul_of_nonneg_right hp.2 hM
  rw [Int.mul_neg] at h2
  omega
theorem floor_spec {a b : Int} (ha : -1152921504606846976 ≤ a ∧ a ≤ 1152921504606846976) (hb : b = 2 ∨ b = 1024) : spec_l1Floor a b = some (a / b) := by
  unfold spec_l1Floor spec_l1Ceil
  simp only [decide_eq_true_eq]
  by_cases h : a < 0
  · rw [if_pos h, if_neg (by omega), w64 (n := 0 - a) (by omega), w64 (n := 0 - a + b) (by omega), w64 (n := 0 - a + b - 1) (by omega), Int.tdiv_eq_ediv_of_nonneg (by omega)]
    rcases hb with rfl | rfl
    · simp only [Option.bind_some]
      rw [w64 (n := (0 - a + 2 - 1) / 2) (by omega), w64 (by omega)]; congr 1; omega
    · simp only [Option.bind_some]
      rw [w64 (n := (0 - a + 1024 - 1) / 1024) (by omega), w64 (by omega)]; congr 1; omega
  · rw [if_neg h, if_neg (by omega), Int.tdiv_eq_ediv_of_nonneg (by omega)]
    rcases hb with rfl | rfl <;> rw [w64 (by omega)]
theorem floor_impl {a : Int} (ha : -1152921504606846976 ≤ a ∧ a ≤ 1152921504606846976) : impl_floorDiv a 2 = some (a / 2) := by
  unfold impl_floorDiv impl_floorDiv_u1
  rw [if_neg (by omega), if_neg (by omega)]
  simp only [decide_eq_true_eq]
  have e1 : a.tdiv 2 = a / 2 + (if a.tmod 2 < 0 then 1 else 0) := by
    by_cases h : a < 0
    · have e : a.tdiv 2 = -((-a) / 2) := by rw [← Int.tdiv_eq_ediv_of_nonneg (by omega), Int.neg_tdiv, Int.neg_neg]
      have e' : a.tmod 2 = -((-a) % 2) := by rw [← Int.tmod_eq_emod_of_nonneg (by omega), Int.neg_tmod, Int.neg_neg]
      rw [e, e']
      split <;> omega
    · rw [Int.tdiv_eq_ediv_of_nonneg (by omega), Int.tmod_eq_emod_of_nonneg (by omega), if_neg (by omega)]; omega
  rw [e1]
  congr 1
  split
  · rw [w64 (n := a / 2 + 1) (by omega), w64 (by omega)]; omega
  · rw [w64 (by omega)]; omega
theorem ten_spec {a : Int} (ha : -1152921504606846000 ≤ a ∧ a ≤ 1152921504606846000) : spec_l1Ten a = some ((a + 512) / 1024) := by
  unfold spec_l1Ten
  rw [w64 (by omega), floor_spec (by omega) (.inr rfl)]; rfl
theorem ten_impl {a : Int} (ha : -1152921504606846000 ≤ a ∧ a ≤ 1152921504606846000) : impl_tenOf a = (a + 512) / 1024 := by
  unfold impl_tenOf
  rw [w64 (by omega), Int.fdiv_eq_ediv_of_nonneg _ (by decide)]
  rfl
theorem rot_bound {size n a b M : Int} (h : Rot size n) (hM : 0 ≤ M) (ha : -M ≤ a ∧ a ≤ M) (hb : -M ≤ b ∧ b ≤ M) :
    -(3 * M + 6) ≤ 2 * (a + (spec_l5P size n * b + 512) / 1024 + (spec_l5P size n * (b - (spec_l5U size n * (a + (spec_l5P size n * b + 512) / 1024) + 512) / 1024) + 512) / 1024) ∧
    2 * (a + (spec_l5P size n * b + 512) / 1024 + (spec_l5P size n * (b - (spec_l5U size n * (a + (spec_l5P size n * b + 512) / 1024) + 512) / 1024) + 512) / 1024) ≤ 3 * M + 6 ∧
    -(3 * M + 6) ≤ 2 * (b - (spec_l5U size n * (a + (spec_l5P size n * b + 512) / 1024) + 512) / 1024) ∧
    2 * (b - (spec_l5U size n * (a + (spec_l5P size n * b + 512) / 1024) + 512) / 1024) ≤ 3 * M + 6 := by
  have key : ∀ p u : Int, (p, u) ∈ ([(101, 200), (311, 569), (50, 100), (152, 297), (257, 483), (366, 650), (25, 50), (76, 150), (126, 249), (178, 345), (230, 438), (283, 526), (338, 610), (395, 688)] : List (Int × Int)) → ∀ r x s y t : Int, 1024 * r ≤ p * b + 512 → p * b + 512 ≤ 1024 * r + 1023 → x = a + r → 1024 * s ≤ u * x + 512 → u * x + 512 ≤ 1024 * s + 1023 → y = b - s → 1024 * t ≤ p * y + 512 → p * y + 512 ≤ 1024 * t + 1023 → -(3 * M + 6) ≤ 2 * (x + t) ∧ 2 * (x + t) ≤ 3 * M + 6 ∧ -(3 * M + 6) ≤ 2 * y ∧ 2 * y ≤ 3 * M + 6 := by
    intro p u hpu r x s y t h1 h2 h3 h4 h5 h6 h7 h8
    simp only [List.mem_cons, Prod.mk.injEq, List.not_mem_nil, or_false] at hpu
    subst h3; subst h6
    rcases hpu with ⟨rfl, rfl⟩ | ⟨rfl, rfl⟩ | ⟨rfl, rfl⟩ | ⟨rfl, rfl⟩ | ⟨rfl, rfl⟩ | ⟨rfl, rfl⟩ | ⟨rfl, rfl⟩ | ⟨rfl, rfl⟩ | ⟨rfl, rfl⟩ | ⟨rfl, rfl⟩ | ⟨rfl, rfl⟩ | ⟨rfl, rfl⟩ | ⟨rfl, rfl⟩ | ⟨rfl, rfl⟩ <;>
      (refine ⟨?_, ?_, ?_, ?_⟩ <;> omega)
  have hm : (spec_l5P size n, spec_l5U size n) ∈ ([(101, 200), (311, 569), (50, 100), (152, 297), (257, 483), (366, 650), (25, 50), (76, 150), (126, 249), (178, 345), (230, 438), (283, 526), (338, 610), (395, 688)] : List (Int × Int)) := by
    rcases rot_cases h with ⟨rfl, rfl | rfl⟩ | ⟨rfl, rfl | rfl | rfl | rfl⟩ | ⟨rfl, rfl | rfl | rfl | rfl | rfl | rfl | rfl | rfl⟩ <;> decide
  exact key _ _ hm ((spec_l5P size n * b + 512) / 1024) _ ((spec_l5U size n * (a + (spec_l5P size n * b + 512) / 1024) + 512) / 1024) _ _ (by omega) (by omega) rfl (by omega) (by omega) rfl (by omega) (by omega)
theorem back_same {size n a b M : Int} (h : Rot size n) (hM : 0 ≤ M ∧ M ≤ 1099511627776) (ha : -M ≤ a ∧ a ≤ M) (hb : -M ≤ b ∧ b ≤ M) :
    ∃ x y, spec_l5Back size n a b = some (x, y) ∧ impl_samples_1 size n a b = some (x, y) ∧ -(3 * M + 6) ≤ 2 * x ∧ 2 * x ≤ 3 * M + 6 ∧ -(3 * M + 6) ≤ 2 * y ∧ 2 * y ≤ 3 * M + 6 := by
  obtain ⟨h1, h2, h3, h4, h5⟩ := rot_same h
  obtain ⟨g1, g2, g3, g4⟩ := rot_bound h hM.1 ha hb
  have m1 := mulB ⟨h2, h3⟩ hM.1 hb
  obtain ⟨r, hr⟩ : ∃ r, r = (spec_l5P size n * b + 512) / 1024 := ⟨_, rfl⟩
  have m2 := mulB (p := spec_l5U size n) (b := a + r) (M := 2 * M + 1) ⟨h4, h5⟩ (by omega) (by omega)
  obtain ⟨s, hs⟩ : ∃ s, s = (spec_l5U size n * (a + r) + 512) / 1024 := ⟨_, rfl⟩
  have m3 := mulB (p := spec_l5P size n) (b := b - s) (M := 3 * M + 2) ⟨h2, h3⟩ (by omega) (by omega)
  rw [← hr, ← hs] at g1 g2 g3 g4
  refine ⟨_, _, ?_, ?_, g1, g2, g3, g4⟩
  · unfold spec_l5Back
    rw [w64 (n := spec_l5P size n * b) (by omega), ten_spec (by omega), ← hr]; simp only [Option.bind_some]
    rw [w64 (n := a + r) (by omega), w64 (n := spec_l5U size n * (a + r)) (by omega), ten_spec (by omega), ← hs]; simp only [Option.bind_some]
    rw [w64 (n := b - s) (by omega), w64 (n := spec_l5P size n * (b - s)) (by omega), ten_spec (by omega)]; simp only [Option.bind_some]
    rw [w64 (by omega)]
  · unfold impl_samples_1 impl_turn_back
    rw [h1]; simp only [Option.bind_some]
    rw [w64 (n := spec_l5P size n * b) (by omega), ten_impl (a := spec_l5P size n * b) (by omega), ← hr]
    rw [w64 (n := a + r) (by omega), w64 (n := spec_l5U size n * (a + r)) (by omega), ten_impl (a := spec_l5U size n * (a + r)) (by omega), ← hs]
    rw [w64 (n := b - s) (by omega), w64 (n := spec_l5P size n * (b - s)) (by omega), ten_impl (a := spec_l5P size n * (b - s)) (by omega)]
    rw [w64 (by omega)]
theorem part_same {a b M : Int} (hM : 0 ≤ M ∧ M ≤ 1099511627776) (ha : -M ≤ a ∧ a ≤ M) (hb : -(3 * M + 6) ≤ 2 * b ∧ 2 * b ≤ 3 * M + 6) :
    ∃ x y, spec_l5Part a b = some (x, y) ∧ impl_part a b = some (x, y) ∧ -(7 * M + 12) ≤ 4 * x ∧ 4 * x ≤ 7 * M + 12 ∧ -(7 * M + 12) ≤ 4 * y ∧ 4 * y ≤ 7 * M + 12 := by
  refine ⟨a - b / 2 + b, a - b / 2, ?_, ?_, by omega, by omega, by omega, by omega⟩
  · unfold spec_l5Part
    rw [floor_spec (by omega) (.inl rfl)]; simp only [Option.bind_some]
    rw [w64 (n := a - b / 2) (by omega), w64 (by omega)]
  · unfold impl_part
    rw [floor_impl (by omega)]; simp only [Option.bind_some]
    rw [w64 (n := a - b / 2) (by omega), w64 (by omega)]
/-- All of a list within a bound. -/
def InB (B : Int) (l : List Int) : Prop := ∀ x ∈ l, -B ≤ x ∧ x ≤ B
theorem gsplit_spec {k : Nat} {rec_ : List Int → Option (List Int)} {l : List Int} {h : Nat} (hl : l.length = 2 * h) (hs : l.length ≤ 1000) : loopO (spec_l6Gather_s1 k rec_ l) ([], [], 0) = some (evens l, odds l) := by
  have := part_loop2 (l := l) (step := spec_l6Gather_s1 k rec_ l) (by omega) (fun a b i x y hi hx hy ha hb => by
    simp only [spec_l6Gather_s1, decide_eq_true_eq]
    rw [w64 (n := (i : Int) + 1) (by omega), if_pos (by omega), getI_nat, hx]
    have e : (i : Int) + 1 = ((i + 1 : Nat) : Int) := by omega
    rw [e, getI_nat, hy]
    simp only [Option.bind_some]
    rw [if_pos (okApp_8 (by simp; omega)), if_pos (okApp_8 (by simp; omega)), w64 (by omega)]) (fun a b => by
    simp only [spec_l6Gather_s1, decide_eq_true_eq]
    rw [w64 (n := (l.length : Int) + 1) (by omega), if_neg (by omega)]) h l [] [] [] rfl hl (by simp) (by simp)
  simpa using this
theorem gsplit_impl {k : Nat} {rec_ : Sundo → List Int → Option (List Int)} {l : List Int} {h : Nat} (hl : l.length = 2 * h) (hs : l.length ≤ 1000) : loopO (impl_undo_gather_samples_s5 k rec_ l (l.length : Int)) ([], [], 0) = some (evens l, odds l) := by
  have := part_loop1 (l := l) (step := impl_undo_gather_samples_s5 k rec_ l (l.length : Int)) (by omega) (fun a b i x hx ha hb => by
    have hi : i < l.length := (List.getElem?_eq_some_iff.1 hx).1
    simp only [impl_undo_gather_samples_s5, impl_undo_gather_samples_u4, impl_undo_gather_samples_u3, decide_eq_true_eq]
    rw [if_pos (by omega), getI_nat, hx]
    simp only [Option.bind_some]
    have e : (i : Int).tmod 2 = ((i % 2 : Nat) : Int) := by rw [Int.tmod_eq_emod_of_nonneg (by omega)]; omega
    rw [e, w64 (n := (i : Int) + 1) (by omega)]
    by_cases hp : i % 2 = 0
    · rw [if_pos (by simp [hp]), if_pos (okApp_8 (by simp; omega)), if_pos hp]; rfl
    · rw [if_neg (by simp; omega), if_pos (okApp_8 (by simp; omega)), if_neg hp]; rfl) (fun a b => by
    simp only [impl_undo_gather_samples_s5, decide_eq_true_eq]
    rw [if_neg (by omega)]) h l [] [] [] rfl hl rfl (by simp) (by simp)
  simpa using this
theorem grotate_same {o sl d : List Int} {h q : Nat} {n : Int} {B : Int} (hn : n = 2 * (h : Int)) (hh : h = 2 * q) (hr : h = 2 ∨ h = 4 ∨ h = 8) (hd : d.length = h) (hB : 0 ≤ B ∧ B ≤ 1099511627776) (hw : InB B d) :
    ∃ r, loopO (spec_l6Unite_s1 sl n) (d, 0) = some r ∧ loopO (impl_undo_unite_samples_s1 o sl n (q : Int)) (d, 0) = some r ∧ r.length = h ∧ ∀ x ∈ r, -(3 * B + 6) ≤ 2 * x ∧ 2 * x ≤ 3 * B + 6 := by
  have n2 : IntKind.i64.wrap (n.tdiv 2) = (h : Int) := by rw [Int.tdiv_eq_ediv_of_nonneg (by omega), w64 (by omega)]; omega
  have n4 : IntKind.i64.wrap (n.tdiv 4) = (q : Int) := by rw [Int.tdiv_eq_ediv_of_nonneg (by omega), w64 (by omega)]; omega
  obtain ⟨t, h1, h2, h3, h4⟩ := loop_same (step1 := spec_l6Unite_s1 sl n) (step2 := impl_undo_unite_samples_s1 o sl n (q : Int))
      (fun i s => s.2 = (i : Int) ∧ s.1.length = h ∧ (∀ x ∈ s.1, -(3 * B + 6) ≤ 2 * x ∧ 2 * x ≤ 3 * B + 6) ∧ ∀ j x, i ≤ j → j < h - i → s.1[j]? = some x → -B ≤ x ∧ x ≤ B)
      (fun t => t.length = h ∧ ∀ x ∈ t, -(3 * B + 6) ≤ 2 * x ∧ 2 * x ≤ 3 * B + 6) q (by
    rintro i ⟨e, c⟩ hi ⟨hc, hl, hb, hu⟩
    simp only at hc hl hb hu
    subst hc
    rcases Nat.lt_or_ge i q with hq | hq
    · obtain ⟨x, hx, mx⟩ := get_lt (l := e) (i := i) (by omega)
      obtain ⟨y, hy, my⟩ := get_lt (l := e) (i := h - 1 - i) (by omega)
      have bx := hu i x (by omega) (by omega) hx
      have by_ := hu (h - 1 - i) y (by omega) (by omega) hy
      obtain ⟨x', y', t1, t2, t3, t4, t5, t6⟩ := back_same (size := n) (n := (i : Int)) (a := x) (b := y) (M := B) (by rcases hr with rfl | rfl | rfl <;> (subst hn; unfold Rot; omega)) hB bx by_
      have e1 : IntKind.i64.wrap (IntKind.i64.wrap ((h : Int) - 1) - (i : Int)) = ((h - 1 - i : Nat) : Int) := by rw [w64 (n := (h : Int) - 1) (by omega), w64 (by omega)]; omega
      have hs : ∀ a, (e.set i a)[h - 1 - i]? = some y := fun a => by rw [List.getElem?_set_ne (by omega)]; exact hy
      have r1 : spec_l6Unite_s1 sl n (e, (i : Int)) = some (.inl ((e.set i x').set (h - 1 - i) y', (i : Int) + 1)) := by
        simp only [spec_l6Unite_s1, decide_eq_true_eq]
        rw [n4, if_pos (by omega), n2, e1]
        simp only [getI_nat, Int.toNat_natCast, hx, hy, Option.bind_some, t1, hs]
        rw [w64 (by omega)]
      have r2 : impl_undo_unite_samples_s1 o sl n (q : Int) (e, (i : Int)) = some (.inl ((e.set i x').set (h - 1 - i) y', (i : Int) + 1)) := by
        simp only [impl_undo_unite_samples_s1, decide_eq_true_eq]
        rw [if_pos (by omega), n2, e1]
        simp only [getI_nat, Int.toNat_natCast, hx, hy, Option.bind_some, t2, hs]
        rw [w64 (by omega)]
      refine ⟨by rw [r1, r2], .inl ⟨hq, _, r2, by simp, by simp [hl], fun z hz => ?_, fun j z hj1 hj2 hz => ?_⟩⟩
      · rcases List.mem_or_eq_of_mem_set hz with hz | rfl
        · rcases List.mem_or_eq_of_mem_set hz with hz | rfl
          · exact hb z hz
          · omega
        · omega
      · simp only at hz
        rw [List.getElem?_set_ne (by omega), List.getElem?_set_ne (by omega)] at hz
        exact hu j z (by omega) (by omega) hz
    · have r1 : spec_l6Unite_s1 sl n (e, (i : Int)) = some (.inr e) := by
        simp only [spec_l6Unite_s1, decide_eq_true_eq]
        rw [n4, if_neg (by omega)]
      have r2 : impl_undo_unite_samples_s1 o sl n (q : Int) (e, (i : Int)) = some (.inr e) := by
        simp only [impl_undo_unite_samples_s1, decide_eq_true_eq]
        rw [if_neg (by omega)]
      exact ⟨by rw [r1, r2], .inr ⟨_, r2, hl, hb⟩⟩) (s := (d, 0)) ⟨rfl, hd, fun x hx => by have := hw x hx; omega, fun j x _ _ hx => hw x (List.mem_of_getElem? hx)⟩
  exact ⟨t, h1, h2, h3, h4⟩
theorem gjoin_same {sl d z : List Int} {h : Nat} {n : Int} {B : Int} (hn : n = 2 * (h : Int)) (hh : h ≤ 1000) (hs : sl.length = h) (hd : d.length = h) (hz : z.length = 2 * h) (hB : 0 ≤ B ∧ B ≤ 1099511627776) (hw : InB B sl) (hv : ∀ x ∈ d, -(3 * B + 6) ≤ 2 * x ∧ 2 * x ≤ 3 * B + 6) (hu : ∀ x ∈ z, x = 0) :
    ∃ r, loopO (spec_l6Unite_s3 d sl n) (z, 0) = some r ∧ loopO (impl_undo_unite_samples_s2 d sl n (h : Int)) (z, 0) = some r ∧ r.length = 2 * h ∧ ∀ x ∈ r, -(7 * B + 12) ≤ 4 * x ∧ 4 * x ≤ 7 * B + 12 := by
  have n2 : IntKind.i64.wrap (n.tdiv 2) = (h : Int) := by rw [Int.tdiv_eq_ediv_of_nonneg (by omega), w64 (by omega)]; omega
  obtain ⟨t, h1, h2, h3, h4⟩ := loop_same (step1 := spec_l6Unite_s3 d sl n) (step2 := impl_undo_unite_samples_s2 d sl n (h : Int))
      (fun i s => s.2 = (i : Int) ∧ s.1.length = 2 * h ∧ ∀ x ∈ s.1, -(7 * B + 12) ≤ 4 * x ∧ 4 * x ≤ 7 * B + 12) (fun t => t.length = 2 * h ∧ ∀ x ∈ t, -(7 * B + 12) ≤ 4 * x ∧ 4 * x ≤ 7 * B + 12) h (by
    rintro i ⟨e, c⟩ hi ⟨hc, hl, hb⟩
    simp only at hc hl hb
    subst hc
    rcases Nat.lt_or_ge i h with hq | hq
    · obtain ⟨x, hx, mx⟩ := get_lt (l := sl) (i := i) (by omega)
      obtain ⟨y, hy, my⟩ := get_lt (l := d) (i := i) (by omega)
      obtain ⟨u, hu1, mu⟩ := get_lt (l := e) (i := i) (by omega)
      obtain ⟨v, hv1, mv⟩ := get_lt (l := e) (i := 2 * h - 1 - i) (by omega)
      obtain ⟨x', y', t1, t2, t3, t4, t5, t6⟩ := part_same hB (hw x mx) (hv y my)
      have e1 : IntKind.i64.wrap (IntKind.i64.wrap (n - 1) - (i : Int)) = ((2 * h - 1 - i : Nat) : Int) := by rw [w64 (n := n - 1) (by omega), w64 (by omega)]; omega
      have hs : ∀ a, (e.set i a)[2 * h - 1 - i]? = some v := fun a => by rw [List.getElem?_set_ne (by omega)]; exact hv1
      have r1 : spec_l6Unite_s3 d sl n (e, (i : Int)) = some (.inl ((e.set i x').set (2 * h - 1 - i) y', (i : Int) + 1)) := by
        simp only [spec_l6Unite_s3, decide_eq_true_eq]
        rw [n2, if_pos (by omega), e1]
        simp only [getI_nat, Int.toNat_natCast, hx, hy, Option.bind_some, hu1, t1, hs]
        rw [w64 (n := (i : Int) + 1) (by omega)]
      have r2 : impl_undo_unite_samples_s2 d sl n (h : Int) (e, (i : Int)) = some (.inl ((e.set i x').set (2 * h - 1 - i) y', (i : Int) + 1)) := by
        simp only [impl_undo_unite_samples_s2, decide_eq_true_eq]
        rw [if_pos (by omega), e1]
        simp only [getI_nat, Int.toNat_natCast, hx, hy, Option.bind_some, hu1, t2, hs]
        rw [w64 (n := (i : Int) + 1) (by omega)]
      refine ⟨by rw [r1, r2], .inl ⟨hq, _, r2, by simp, by simp [hl], fun z hz => ?_⟩⟩
      rcases List.mem_or_eq_of_mem_set hz with hz | rfl
      · rcases List.mem_or_eq_of_mem_set hz with hz | rfl
        · exact hb z hz
        · omega
      · omega
    · have r1 : spec_l6Unite_s3 d sl n (e, (i : Int)) = some (.inr e) := by
        simp only [spec_l6Unite_s3, decide_eq_true_eq]
        rw [n2, if_neg (by omega)]
      have r2 : impl_undo_unite_samples_s2 d sl n (h : Int) (e, (i : Int)) = some (.inr e) := by
        simp only [impl_undo_unite_samples_s2, decide_eq_true_eq]
        rw [if_neg (by omega)]
      exact ⟨by rw [r1, r2], .inr ⟨_, r2, hl, hb⟩⟩) (s := (z, 0)) ⟨rfl, hz, fun x hx => by rw [hu x hx]; omega⟩
  exact ⟨t, h1, h2, h3, h4⟩
def gc : Nat → Int
  | 0 => 16777216
  | m + 1 => 7 * gc m / 4 + 8
theorem gc_le : ∀ m, m ≤ 4 → 0 ≤ gc m ∧ gc m ≤ 268435456 := by
  intro m hm
  have : m = 0 ∨ m = 1 ∨ m = 2 ∨ m = 3 ∨ m = 4 := by omega
  rcases this with rfl | rfl | rfl | rfl | rfl <;> decide
theorem sgather_same : ∀ (m k : Nat) (l : List Int), m ≤ 4 → m < k → l.length = 2 ^ m → InB 16777216 l →
    ∃ r, spec_l6Gather k l = some r ∧ impl_undo_gather_samples k Sundo.mk l = some r ∧ r.length = l.length ∧ InB (gc m) r
  | 0, k, l, hm, hk, hl, hw => by
    obtain ⟨k, rfl⟩ : ∃ j, k = j + 1 := ⟨k - 1, by omega⟩
    match l, hl with
    | [x], hl =>
      refine ⟨[x], ?_, ?_, rfl, fun z hz => ?_⟩
      · simp [spec_l6Gather, spec_l6Gather_b, spec_l1Ints, okApp_8]
      · simp [impl_undo_gather_samples, impl_undo_gather_samples_b, getI]
      · exact hw z hz
  | m + 1, k, l, hm, hk, hl, hw => by
    obtain ⟨k, rfl⟩ : ∃ j, k = j + 1 := ⟨k - 1, by omega⟩
    obtain ⟨h, hh⟩ : ∃ h, h = 2 ^ m := ⟨_, rfl⟩
    have hl2 : l.length = 2 * h := by rw [hl, hh, Nat.pow_succ]; omega
    have hcases : h = 1 ∨ h = 2 ∨ h = 4 ∨ h = 8 := by
      have : m = 0 ∨ m = 1 ∨ m = 2 ∨ m = 3 := by omega
      rcases this with rfl | rfl | rfl | rfl <;> simp [hh]
    obtain ⟨a1, a2, a3, a4⟩ := halves_spec h l hl2
    obtain ⟨s, s1, s2, s3, s4⟩ := sgather_same m k (evens l) (by omega) (by omega) (by rw [a1, hh]) (fun x hx => hw x (a3 x hx))
    obtain ⟨d, d1, d2, d3, d4⟩ := sgather_same m k (odds l) (by omega) (by omega) (by rw [a2, hh]) (fun x hx => hw x (a4 x hx))
    obtain ⟨b1, b2⟩ := gc_le m (by omega)
    have hn : (l.length : Int) = 2 * (h : Int) := by omega
    have w1 : IntKind.i64.wrap ((s.length : Int) * 2) = (l.length : Int) := by rw [w64 (by omega)]; omega
    -- the rotations
    obtain ⟨d', e1, e2, e3, e4⟩ : ∃ d', spec_l6Unite_u2 d s (l.length : Int) (decide ((l.length : Int) > 2)) = some d' ∧
        loopO (impl_undo_unite_samples_s1 (List.replicate (l.length : Int).toNat 0) s (l.length : Int) (IntKind.i64.wrap ((l.length : Int).tdiv 4))) (d, 0) = some d' ∧ d'.length = h ∧ ∀ x ∈ d', -(3 * gc m + 6) ≤ 2 * x ∧ 2 * x ≤ 3 * gc m + 6 := by
      rcases hcases with h1 | hr
      · refine ⟨d, ?_, ?_, by omega, fun x hx => by have := d4 x hx; omega⟩
        · unfold spec_l6Unite_u2
          rw [if_neg (by simp; omega)]
        · rw [loopO_eq]
          have e : IntKind.i64.wrap ((l.length : Int).tdiv 4) = 0 := by rw [hn, h1]; rfl
          simp only [impl_undo_unite_samples_s1, decide_eq_true_eq]
          rw [e, if_neg (by omega)]
      · obtain ⟨q, hq⟩ : ∃ q, h = 2 * q := ⟨h / 2, by omega⟩
        obtain ⟨r, r1, r2, r3, r4⟩ := grotate_same (o := List.replicate (l.length : Int).toNat 0) (sl := s) (d := d) (n := (l.length : Int)) (B := gc m) hn hq hr (by omega) ⟨b1, by omega⟩ d4
        refine ⟨r, ?_, ?_, r3, r4⟩
        · unfold spec_l6Unite_u2
          rw [if_pos (by simp; omega), r1]; rfl
        · have e : IntKind.i64.wrap ((l.length : Int).tdiv 4) = (q : Int) := by rw [Int.tdiv_eq_ediv_of_nonneg (by omega), w64 (by omega)]; omega
          rw [e]; exact r2
    obtain ⟨r, r1, r2, r3, r4⟩ := gjoin_same (sl := s) (d := d') (z := List.replicate (l.length : Int).toNat 0) (h := h) (n := (l.length : Int)) (B := gc m) hn (by omega) (by omega) e3 (by simp; omega) ⟨b1, by omega⟩ s4 e4 (fun x hx => List.eq_of_mem_replicate hx)
    refine ⟨r, ?_, ?_, by omega, fun x hx => by have := r4 x hx; simp only [gc]; omega⟩
    · rw [spec_l6Gather]
      unfold spec_l6Gather_b
      rw [if_neg (by simp; omega), gsplit_spec hl2 (by omega)]
      simp only [Option.bind_some, s1, d1]
      unfold spec_l6Unite spec_l1Ints
      rw [if_pos (okApp_8 (by omega))]
      simp only [Option.bind_some, w1, e1]
      unfold spec_l1Zeros
      rw [if_pos (okMake_8 (by omega) (by omega))]
      simp only [Option.bind_some, r1]
    · rw [impl_undo_gather_samples]
      unfold impl_undo_gather_samples_b
      rw [if_neg (by simp; omega), gsplit_impl hl2 (by omega)]
      simp only [Option.bind_some, s2, d2]
      unfold impl_undo_unite_samples
      have w2 : IntKind.i64.wrap (2 * (s.length : Int)) = (l.length : Int) := by rw [w64 (by omega)]; omega
      rw [w2, if_pos (okMake_8 (by omega) (by omega)), e2]
      simp only [Option.bind_some]
      have w3 : (s.length : Int) = (h : Int) := by omega
      rw [w3, r2]
      simp only [Option.bind_some]
      rw [if_pos (by omega)]
def BackOk (size : Int) (h : Nat) (last next a b : List Int) (i : Nat) : Prop := ∀ j, j < i → ∀ u v, last[h - 1 - j]? = some u → next[j]? = some v → ∃ x y, spec_l5Back size (j : Int) u v = some (x, y) ∧ a[h - 1 - j]? = some x ∧ b[j]? = some y
theorem bseam_uniq {size : Int} {h : Nat} {last next a b a' b' : List Int} (hl : last.length = h) (hx : next.length = h) (h1 : a.length = h) (h2 : b.length = h) (h3 : a'.length = h) (h4 : b'.length = h) (s : BackOk size h last next a b h) (s' : BackOk size h last next a' b' h) : a = a' ∧ b = b' := by
  have key : ∀ j, j < h → a[h - 1 - j]? = a'[h - 1 - j]? ∧ b[j]? = b'[j]? := fun j hj => by
    obtain ⟨u, hu, _⟩ := get_lt (l := last) (i := h - 1 - j) (by omega)
    obtain ⟨v, hv, _⟩ := get_lt (l := next) (i := j) (by omega)
    obtain ⟨x, y, e1, e2, e3⟩ := s j hj u v hu hv
    obtain ⟨x', y', f1, f2, f3⟩ := s' j hj u v hu hv
    rw [e1] at f1
    obtain ⟨rfl, rfl⟩ : x = x' ∧ y = y' := by simpa using f1
    exact ⟨e2.trans f2.symm, e3.trans f3.symm⟩
  refine ⟨list_ext (by omega) fun j hj => ?_, list_ext (by omega) fun j hj => (key j (by omega)).2⟩
  have := (key (h - 1 - j) (by omega)).1
  rwa [show h - 1 - (h - 1 - j) = j by omega] at this
theorem bseam_same {size : Int} {h : Nat} {last next : List Int} {B s0 : Int} {c1 c2 : List Int} (hs : size = 2 * (h : Int)) (hc : h = 2 ∨ h = 4 ∨ h = 8) (hl : last.length = h) (hx : next.length = h) (hB : 0 ≤ B ∧ B ≤ 1099511627776) (hw : InB B last) (hv : InB B next) :
    ∃ a b, spec_l7Seam size last next true = some (a, b) ∧ impl_seam_impl_PlayBlock_1 last next size c1 c2 = some (a, b) ∧ a.length = h ∧ b.length = h ∧ ∀ x ∈ b, -(3 * B + 6) ≤ 2 * x ∧ 2 * x ≤ 3 * B + 6 := by
  have n2 : IntKind.i64.wrap (size.tdiv 2) = (h : Int) := by rw [Int.tdiv_eq_ediv_of_nonneg (by omega), w64 (by omega)]; omega
  have rot : ∀ i, i < h → Rot size (i : Int) := fun i hi => by rcases hc with rfl | rfl | rfl <;> (subst hs; unfold Rot; omega)
  obtain ⟨t, s1, s2, s3, s4, s5⟩ := loop_rule (step := spec_l7Seam_s3 size last next (h : Int)) (fun i s => s.2.2.1 = true ∧ s.2.2.2 = (i : Int) ∧ s.1.length = h ∧ s.2.1.length = h ∧ BackOk size h last next s.1 s.2.1 i ∧ ∀ x ∈ s.2.1, -(3 * B + 6) ≤ 2 * x ∧ 2 * x ≤ 3 * B + 6)
      (fun t => t.1.length = h ∧ t.2.length = h ∧ BackOk size h last next t.1 t.2 h ∧ ∀ x ∈ t.2, -(3 * B + 6) ≤ 2 * x ∧ 2 * x ≤ 3 * B + 6) h (by
    rintro i ⟨a, b, g, c⟩ hi ⟨hg, hcc, ha, hb, hok, hbd⟩
    simp only at hg hcc ha hb hok hbd
    subst hcc hg
    rcases Nat.lt_or_ge i h with hq | hq
    · left
      obtain ⟨u, hu, mu⟩ := get_lt (l := last) (i := h - 1 - i) (by omega)
      obtain ⟨v, hv', mv⟩ := get_lt (l := next) (i := i) (by omega)
      obtain ⟨x, y, t1, t2, t3, t4, t5, t6⟩ := back_same (rot i hq) (a := u) (b := v) (M := B) hB (hw u mu) (hv v mv)
      have e1 : IntKind.i64.wrap (IntKind.i64.wrap ((h : Int) - 1) - (i : Int)) = ((h - 1 - i : Nat) : Int) := by rw [w64 (n := (h : Int) - 1) (by omega), w64 (by omega)]; omega
      obtain ⟨p, hp, _⟩ := get_lt (l := a) (i := h - 1 - i) (by omega)
      obtain ⟨q, hq', _⟩ := get_lt (l := b) (i := i) (by omega)
      simp only [spec_l7Seam_s3, spec_l7Seam_u2, decide_eq_true_eq, if_true]
      rw [if_pos (by omega), e1]
      simp only [getI_nat, Int.toNat_natCast, hu, hv', hp, hq', Option.bind_some, t1]
      rw [w64 (n := (i : Int) + 1) (by omega)]
      refine ⟨hq, _, rfl, rfl, by simp, by simp [ha], by simp [hb], fun j hj u' v' g1 g2 => ?_, fun z hz => ?_⟩
      · simp only
        rcases Nat.lt_or_ge j i with hji | hji
        · obtain ⟨x', y', f1, f2, f3⟩ := hok j hji u' v' g1 g2
          exact ⟨x', y', f1, by rw [List.getElem?_set_ne (by omega)]; exact f2, by rw [List.getElem?_set_ne (by omega)]; exact f3⟩
        · obtain rfl : j = i := by omega
          rw [hu] at g1; rw [hv'] at g2
          obtain rfl := Option.some.inj g1; obtain rfl := Option.some.inj g2
          exact ⟨x, y, t1, by rw [List.getElem?_set_self (by omega)], by rw [List.getElem?_set_self (by omega)]⟩
      · rcases List.mem_or_eq_of_mem_set hz with hz | rfl
        · exact hbd z hz
        · exact ⟨t5, t6⟩
    · right
      obtain rfl : i = h := by omega
      simp only [spec_l7Seam_s3, decide_eq_true_eq]
      rw [if_neg (by omega)]
      exact ⟨_, rfl, ha, hb, hok, hbd⟩) (s := (List.replicate (h : Int).toNat 0, List.replicate (h : Int).toNat 0, true, 0)) ⟨rfl, rfl, by simp, by simp, fun j hj => by omega, fun x hx => by rw [List.eq_of_mem_replicate hx]; omega⟩
  obtain ⟨t', p1, p2, p3, p4⟩ := loop_rule (step := impl_seam_impl_PlayBlock_1_s1 size c1 c2 (h : Int)) (fun i s => s.2.2 = (i : Int) ∧ s.1.length = h ∧ s.2.1.length = h ∧ BackOk size h last next s.1 s.2.1 i ∧ ∀ j, i ≤ j → j < h → s.1[h - 1 - j]? = last[h - 1 - j]? ∧ s.2.1[j]? = next[j]?)
      (fun t => t.1.length = h ∧ t.2.length = h ∧ BackOk size h last next t.1 t.2 h) h (by
    rintro i ⟨a, b, c⟩ hi ⟨hcc, ha, hb, hok, hun⟩
    simp only at hcc ha hb hok hun
    subst hcc
    rcases Nat.lt_or_ge i h with hq | hq
    · left
      obtain ⟨u, hu, mu⟩ := get_lt (l := last) (i := h - 1 - i) (by omega)
      obtain ⟨v, hv', mv⟩ := get_lt (l := next) (i := i) (by omega)
      obtain ⟨x, y, t1, t2, _⟩ := back_same (rot i hq) (a := u) (b := v) (M := B) hB (hw u mu) (hv v mv)
      have e1 : IntKind.i64.wrap (IntKind.i64.wrap ((a.length : Int) - 1) - (i : Int)) = ((h - 1 - i : Nat) : Int) := by rw [w64 (n := (a.length : Int) - 1) (by omega), w64 (by omega)]; omega
      obtain ⟨z1, z2⟩ := hun i (Nat.le_refl _) hq
      have hp : a[h - 1 - i]? = some u := z1.trans hu
      have hq' : b[i]? = some v := z2.trans hv'
      simp only [impl_seam_impl_PlayBlock_1_s1, impl_PlayBlock_1, decide_eq_true_eq]
      rw [if_pos (by omega), e1]
      simp only [getI_nat, Int.toNat_natCast, hp, hq', Option.bind_some, t2]
      rw [w64 (n := (i : Int) + 1) (by omega)]
      refine ⟨hq, _, rfl, by simp, by simp [ha], by simp [hb], fun j hj u' v' g1 g2 => ?_, fun j hj1 hj2 => ?_⟩
      · simp only
        rcases Nat.lt_or_ge j i with hji | hji
        · obtain ⟨x', y', f1, f2, f3⟩ := hok j hji u' v' g1 g2
          exact ⟨x', y', f1, by rw [List.getElem?_set_ne (by omega)]; exact f2, by rw [List.getElem?_set_ne (by omega)]; exact f3⟩
        · obtain rfl : j = i := by omega
          rw [hu] at g1; rw [hv'] at g2
          obtain rfl := Option.some.inj g1; obtain rfl := Option.some.inj g2
          exact ⟨x, y, t1, by rw [List.getElem?_set_self (by omega)], by rw [List.getElem?_set_self (by omega)]⟩
      · simp only
        rw [List.getElem?_set_ne (by omega), List.getElem?_set_ne (by omega)]
        exact hun j (by omega) hj2
    · right
      obtain rfl : i = h := by omega
      simp only [impl_seam_impl_PlayBlock_1_s1, decide_eq_true_eq]
      rw [if_neg (by omega)]
      exact ⟨_, rfl, ha, hb, hok⟩) (s := (last, next, 0)) ⟨rfl, hl, hx, fun j hj => by omega, fun j _ _ => ⟨rfl, rfl⟩⟩
  obtain ⟨e1, e2⟩ := bseam_uniq hl hx s2 s3 p2 p3 s4 p4
  refine ⟨t.1, t.2, ?_, ?_, s2, s3, s5⟩
  · unfold spec_l7Seam spec_l1Zeros
    rw [n2, if_pos (okMake_8 (by omega) (by omega))]
    simp only [Option.bind_some, s1]
  · unfold impl_seam_impl_PlayBlock_1 slices_Clone_int64
    rw [if_pos (okApp_8 (by omega)), if_pos (okApp_8 (by omega))]
    simp only [Option.bind_some]
    rw [hx, p1]
    simp only [Option.bind_some, e1, e2]
/-- A synthesis that can go on. -/
structure SynOk (size : Int) (h : Nat) (s : SSynth) : Prop where
  size : s.Size = size
  head : s.Head.length = h
  tail : s.Tail.length = h
  hb : InB 1073741824 s.Head
  tb : InB 268435456 s.Tail
def SizeOk (size : Int) (h : Nat) : Prop := size = 2 * (h : Int) ∧ (h = 2 ∨ h = 4 ∨ h = 8)
theorem size_ok {n : Int} (h : spec_SizeFault n = 0) : ∃ k, SizeOk n k := by
  by_cases h1 : n = 4
  · exact ⟨2, by omega, by omega⟩
  by_cases h2 : n = 8
  · exact ⟨4, by omega, by omega⟩
  by_cases h3 : n = 16
  · exact ⟨8, by omega, by omega⟩
  simp [spec_SizeFault, spec_SizeFault_u1, h1, h2, h3] at h
theorem ok_size {n : Int} {k : Nat} (h : SizeOk n k) : spec_SizeFault n = 0 := by
  obtain ⟨h1, h2⟩ := h
  rcases h2 with rfl | rfl | rfl <;> (subst h1; rfl)
theorem all_inB {B : Int} {l : List Int} (h : InB B l) : (l.all fun x => decide (-B ≤ x ∧ x ≤ B)) = true := List.all_eq_true.2 fun x hx => decide_eq_true (h x hx)
theorem synFault_zero {size : Int} {h : Nat} {s : SSynth} (hs : SizeOk size h) (o : SynOk size h s) : impl_SynthFault s = some 0 := by
  have hz := ok_size hs
  obtain ⟨h1, h2⟩ := hs
  obtain ⟨o1, o2, o3, o4, o5⟩ := o
  have n2 : IntKind.i64.wrap (size.tdiv 2) = (h : Int) := by rw [Int.tdiv_eq_ediv_of_nonneg (by omega), w64 (by omega)]; omega
  have hf : ∀ a b c : Int, impl_first [a, b, c] = some (firstL [a, b, c]) := fun a b c => impl_first_eq (by simp [maxI])
  unfold impl_SynthFault impl_SynthFault_u1 impl_halfOf
  rw [o1, n2, o2, o3, allWithin_eq (by omega) (by unfold maxI; omega), allWithin_eq (by omega) (by unfold maxI; omega), all_inB o4, all_inB o5]
  simp [hf, size_same, hz, impl_codeIf_eq, firstL]
theorem gatherFault_zero {size : Int} {h : Nat} {l : List Int} (hs : SizeOk size h) (hl : l.length = 2 * h) (hb : InB 16777216 l) : impl_gatherFault l = some 0 := by
  have hz := ok_size hs
  obtain ⟨h1, h2⟩ := hs
  have hf : ∀ a b : Int, impl_first [a, b] = some (firstL [a, b]) := fun a b => impl_first_eq (by simp [maxI])
  have e : (l.length : Int) = size := by omega
  unfold impl_gatherFault impl_isBlock
  rw [allWithin_eq (by omega) (by unfold maxI; omega), all_inB hb, size_same, e, hz]
  simp [hf, impl_codeIf_eq, firstL]
theorem play_same {k : Nat} {size : Int} {h : Nat} {s : SSynth} {l : List Int} (hk : 5 ≤ k) (hs : SizeOk size h) (o : SynOk size h s) (hl : l.length = 2 * h) (hb : InB 16777216 l) :
    ∃ s' f, spec_l7Play k s l = some (s', f) ∧ impl_PlayBlock k s l = some ⟨0, s', f⟩ ∧ SynOk size h s' ∧ f.length = 2 * h := by
  have hsf := synFault_zero hs o
  have hgf := gatherFault_zero hs hl hb
  obtain ⟨h1, hcs⟩ := hs
  obtain ⟨o1, o2, o3, o4, o5⟩ := o
  obtain ⟨m, hm4, hpow⟩ : ∃ m : Nat, m ≤ 4 ∧ 2 * h = 2 ^ m := by
    rcases hcs with rfl | rfl | rfl
    · exact ⟨2, by omega, by decide⟩
    · exact ⟨3, by omega, by decide⟩
    · exact ⟨4, by omega, by decide⟩
  obtain ⟨x, x1, x2, x3, x4⟩ := sgather_same m k l hm4 (by omega) (by omega) hb
  obtain ⟨g1, g2⟩ := gc_le m hm4
  have lx : x.length = 2 * h := by omega
  have n2 : IntKind.i64.wrap (size.tdiv 2) = (h : Int) := by rw [Int.tdiv_eq_ediv_of_nonneg (by omega), w64 (by omega)]; omega
  have up : upI x.length (h : Int) = some h := by unfold upI; rw [if_pos (by omega)]; simp
  have cut : cutI x.length (h : Int) (x.length : Int) = some (h, x.length) := by
    unfold cutI
    rw [if_pos (by omega), if_pos (by omega)]; simp
  have dt : (x.drop h).take (x.length - h) = x.drop h := List.take_of_length_le (by simp)
  obtain ⟨u, v, u1, u2, u3, u4, u5⟩ := bseam_same (size := size) (h := h) (last := s.Tail) (next := x.take h) (B := 268435456) (s0 := 0) (c1 := s.Head) (c2 := s.Tail) h1 hcs o3 (by simp; omega) (by omega) o5 (fun q hq => by have := x4 q (List.mem_of_mem_take hq); omega)
  have hsz : s.Size = 2 * (h : Int) := by omega
  refine ⟨⟨size, v, x.drop h⟩, s.Head ++ u, ?_, ?_, ⟨rfl, u4, by simp; omega, fun q hq => by have := u5 q hq; omega, fun q hq => by have := x4 q (List.mem_of_mem_drop hq); omega⟩, by simp; omega⟩
  · unfold spec_l7Play spec_l7Play_u1 spec_l1Ints
    rw [x1]
    simp only [Option.bind_some, o1, n2, up, cut, dt, u1]
    rw [if_pos (okApp_8 (by simp; omega)), if_pos (okApp_8 (by omega))]
    simp only [Option.bind_some]
    rw [if_pos (okApp_8 (by simp; omega))]
    rfl
  · unfold impl_PlayBlock impl_PlayBlock_u2 slices_Clone_int64
    have hf : ∀ a b c : Int, impl_first [a, b, c] = some (firstL [a, b, c]) := fun a b c => impl_first_eq (by simp [maxI])
    rw [hsf, hgf]
    simp only [Option.bind_some, hf, o1]
    have e0 : firstL [0, impl_codeIf ((l.length : Int) != size) 2, 0] = 0 := by
      have : ((l.length : Int) != size) = false := by simp; omega
      rw [this]; rfl
    rw [e0]
    simp only [bne_self_eq_false, Bool.false_eq_true, if_false, x2, Option.bind_some, n2, up, cut, dt, u2]
    rw [if_pos (okApp_8 (by simp; omega)), concat_eq (by simp) (by simp; omega)]
    simp
theorem pow_le : ∀ e : Nat, e ≤ 30 → 1 ≤ (2 : Int) ^ e ∧ (2 : Int) ^ e ≤ 1073741824 := by
  intro e he
  have : ∀ e : Fin 31, 1 ≤ (2 : Int) ^ e.val ∧ (2 : Int) ^ e.val ≤ 1073741824 := by decide
  exact this ⟨e, by omega⟩
theorem pow_le24 : ∀ e : Nat, e ≤ 24 → 1 ≤ (2 : Int) ^ e ∧ (2 : Int) ^ e ≤ 16777216 := by
  intro e he
  have : ∀ e : Fin 25, 1 ≤ (2 : Int) ^ e.val ∧ (2 : Int) ^ e.val ≤ 16777216 := by decide
  exact this ⟨e, by omega⟩
theorem pow_le22 : ∀ e : Nat, e ≤ 22 → 1 ≤ (2 : Int) ^ e ∧ (2 : Int) ^ e ≤ 4194304 := by
  intro e he
  have : ∀ e : Fin 23, 1 ≤ (2 : Int) ^ e.val ∧ (2 : Int) ^ e.val ≤ 4194304 := by decide
  exact this ⟨e, by omega⟩
theorem l4Two_eq {n : Nat} (h : n ≤ 30) : spec_l4Two (n : Int) = some ((2 : Int) ^ n) := by
  unfold spec_l4Two
  obtain ⟨t, h1, rfl⟩ := loop_rule (step := spec_l4Two_s1) (fun i s => s = ((n : Int) - (i : Int), (2 : Int) ^ i)) (fun t => t = (2 : Int) ^ n) n (by
    rintro i s hi rfl
    simp only [spec_l4Two_s1, decide_eq_true_eq]
    rcases Nat.lt_or_ge i n with h' | h'
    · left
      have := pow_le i (by omega)
      rw [if_pos (by omega), w64 (n := (n : Int) - i - 1) (by omega), w64 (n := (2 : Int) ^ i * 2) (by omega)]
      exact ⟨h', _, rfl, by rw [Int.pow_succ]; simp only [Prod.mk.injEq, and_true]; omega⟩
    · right
      obtain rfl : i = n := by omega
      rw [if_neg (by omega)]
      exact ⟨_, rfl, rfl⟩) (s := ((n : Int), 1)) (by simp)
  rw [h1]; rfl
def stepv (r : Int) : Int := if r = 0 then 1 else if r % 2 = 1 then 2 ^ ((r + 1) / 2).toNat else 3 * 2 ^ (r / 2 - 1).toNat
theorem step_eq {r : Int} (h : 0 ≤ r ∧ r ≤ 47) : spec_l9Step r = some (stepv r) ∧ impl_stepOf r = some (stepv r) ∧ 1 ≤ stepv r ∧ stepv r ≤ 16777216 := by
    unfold spec_l9Step impl_stepOf stepv
    by_cases h0 : r = 0
    · subst h0; exact ⟨rfl, rfl, by decide, by decide⟩
    rw [if_neg h0]
    have e0 : (r == 0) = false := by simp [h0]
    rw [e0]
    simp only [Bool.false_eq_true, if_false]
    rw [Int.tmod_eq_emod_of_nonneg (by omega)]
    by_cases h1 : r % 2 = 1
    · have e1 : (r % 2 == 1) = true := by simp [h1]
      rw [e1, if_pos h1]
      simp only [if_true]
      have e2 : IntKind.i64.wrap ((IntKind.i64.wrap (r + 1)).tdiv 2) = (((r + 1) / 2).toNat : Int) := by
        rw [w64 (n := r + 1) (by omega), Int.tdiv_eq_ediv_of_nonneg (by omega), w64 (by omega)]; omega
      have hb := pow_le24 ((r + 1) / 2).toNat (by omega)
      rw [e2, l4Two_eq (by omega), if_neg (by omega), Int.toNat_natCast, Nat.min_eq_left (by omega), Int.one_mul, w64 (by omega)]
      exact ⟨rfl, rfl, hb.1, hb.2⟩
    · have e1 : (r % 2 == 1) = false := by simp [h1]
      rw [e1, if_neg h1]
      simp only [Bool.false_eq_true, if_false]
      have e2 : IntKind.i64.wrap (IntKind.i64.wrap (r.tdiv 2) - 1) = ((r / 2 - 1).toNat : Int) := by
        rw [Int.tdiv_eq_ediv_of_nonneg (by omega), w64 (n := r / 2) (by omega), w64 (by omega)]; omega
      have hb := pow_le22 (r / 2 - 1).toNat (by omega)
      rw [e2, l4Two_eq (by omega), if_neg (by omega), Int.toNat_natCast, Nat.min_eq_left (by omega)]
      simp only [Option.bind_some]
      rw [w64 (by omega)]
      exact ⟨rfl, rfl, by omega, by omega⟩
def fitsB (r x : Int) : Bool := decide (-16777216 ≤ x * stepv r ∧ x * stepv r ≤ 16777216)
theorem mulS {x s : Int} (hs : 1 ≤ s ∧ s ≤ 16777216) (hx : -65535 ≤ x ∧ x ≤ 65535) : -1099511627776 ≤ x * s ∧ x * s ≤ 1099511627776 := by
  have h1 : x * s ≤ 65535 * s := Int.mul_le_mul_of_nonneg_right hx.2 (by omega)
  have h2 : (-65535) * s ≤ x * s := Int.mul_le_mul_of_nonneg_right hx.1 (by omega)
  omega
theorem fits_same {r x : Int} (hr : 0 ≤ r ∧ r ≤ 47) (hx : -65535 ≤ x ∧ x ≤ 65535) : spec_l14Fits x r = some (fitsB r x) ∧ ∃ v, impl_Restore x r = some ⟨if fitsB r x = true then 0 else 3, v⟩ := by
  obtain ⟨a, b, c, d⟩ := step_eq hr
  have hm := mulS ⟨c, d⟩ hx
  refine ⟨?_, ?_⟩
  · unfold spec_l14Fits spec_l9Coef
    rw [a]
    simp only [Option.bind_some]
    rw [spec_l1In_eq, w64 (by omega)]; rfl
  · unfold impl_Restore impl_Restore_u1 impl_isRung impl_isCoef impl_within
    rw [b]
    simp only [impl_inRange_eq, Option.bind_some]
    rw [w64 (n := 0 - 16777216) (by omega), w64 (n := x * stepv r) (by omega), if_pos (decide_eq_true hr), if_pos (decide_eq_true (by omega))]
    simp only [Option.bind_some]
    unfold fitsB
    by_cases hf : -16777216 ≤ x * stepv r ∧ x * stepv r ≤ 16777216
    · exact ⟨_, by simp [hf]; rfl⟩
    · have : (decide (0 - 16777216 ≤ x * stepv r ∧ x * stepv r ≤ 16777216)) = false := decide_eq_false (by omega)
      rw [this, decide_eq_false hf]
      exact ⟨0, rfl⟩
def badLow (r x : Int) : Bool := !(decide (-30000 ≤ x ∧ x ≤ 30000) && fitsB r x)
def badGain (r x : Int) : Bool := !(decide (0 ≤ x ∧ x ≤ 65535) && fitsB r x)
theorem low_spec {a1 a2 r a4 a5 : Int} {a7 : List Int} {a8 : List (List Int)} {a9 : List SBand} {x : Int} {l : List Int} {i : Nat} (hr : 0 ≤ r ∧ r ≤ 47) (hx : l[i]? = some x) : spec_FrameFault_u3 a1 a2 r a4 a5 l a7 a8 a9 (i : Int) = some (badLow r x) := by
  unfold spec_FrameFault_u3 spec_l10Index badLow
  simp only [getI_nat, hx, Option.bind_some, spec_l1In_eq]
  by_cases h : -30000 ≤ x ∧ x ≤ 30000
  · rw [if_pos (decide_eq_true h), (fits_same hr (by omega)).1, decide_eq_true h]; rfl
  · rw [decide_eq_false h]; rfl
theorem low_impl {b1 b2 r b4 b5 : Int} {b6 b7 : List Int} {b8 : List (List Int)} {x : Int} (hr : 0 ≤ r ∧ r ≤ 47) : impl_FrameFault_1 x b1 b2 r b4 b5 b6 b7 b8 = some (badLow r x) := by
  unfold impl_FrameFault_1 impl_FrameFault_1_u1 impl_isIndexOf impl_within badLow
  simp only [impl_inRange_eq]
  rw [w64 (n := 0 - 30000) (by omega)]
  by_cases h : -30000 ≤ x ∧ x ≤ 30000
  · obtain ⟨v, hv⟩ := (fits_same hr (x := x) (by omega)).2
    rw [if_pos (decide_eq_true (by omega)), hv, decide_eq_true h]
    cases fitsB r x <;> rfl
  · rw [if_neg (by simp; omega), decide_eq_false h]; rfl
theorem gain_spec {r x : Int} {l : List Int} {i : Nat} (hr : 0 ≤ r ∧ r ≤ 47) (hx : l[i]? = some x) : spec_l14Gains_u2 l r (i : Int) = some (badGain r x) := by
  unfold spec_l14Gains_u2 badGain
  simp only [getI_nat, hx, Option.bind_some, spec_l1In_eq]
  by_cases h : 0 ≤ x ∧ x ≤ 65535
  · rw [if_pos (decide_eq_true h), (fits_same hr (by omega)).1, decide_eq_true h]; rfl
  · rw [decide_eq_false h]; rfl
def gr (r m : Int) : Int := if r + 2 * m ≤ 47 then r + 2 * m else 47
theorem gr_ok {r m : Int} (hr : 0 ≤ r ∧ r ≤ 47) (hm : 0 ≤ m ∧ m ≤ 3) : spec_l13Rung r m = gr r m ∧ impl_gainRung r m = gr r m ∧ 0 ≤ gr r m ∧ gr r m ≤ 47 := by
  unfold spec_l13Rung impl_gainRung spec_l1Min mnI gr
  rw [w64 (n := 2 * m) (by omega), w64 (n := r + 2 * m) (by omega)]
  simp only [decide_eq_true_eq]
  refine ⟨?_, ?_, ?_, ?_⟩ <;> (try split) <;> (try split) <;> omega
theorem gain_impl {r m x : Int} (hr : 0 ≤ r ∧ r ≤ 47) (hm : 0 ≤ m ∧ m ≤ 3) : impl_gainsFault_1 x r m = some (badGain (gr r m) x) := by
  obtain ⟨_, g2, g3⟩ := gr_ok hr hm
  unfold impl_gainsFault_1 impl_gainsFault_1_u1 badGain
  simp only [impl_inRange_eq, g2]
  by_cases h : 0 ≤ x ∧ x ≤ 65535
  · obtain ⟨v, hv⟩ := (fits_same g3 (x := x) (by omega)).2
    rw [if_pos (decide_eq_true h), hv, decide_eq_true h]
    cases fitsB (gr r m) x <;> rfl
  · rw [if_neg (by simp; omega), decide_eq_false h]; rfl
/-- A search, as the reference has it. -/
theorem any_loop {l : List Int} (p : Int → Bool) {step : Int → Option (Int ⊕ (Unit ⊕ Unit))} (h1 : ∀ (i : Nat) (x : Int), l[i]? = some x → step i = some (if p x = true then .inr (.inr ()) else .inl (IntKind.i64.wrap ((i : Int) + 1))))
    (h2 : step (l.length : Int) = some (.inr (.inl ()))) (hl : (l.length : Int) ≤ maxI) : loopO step 0 = some (if l.any p = true then .inr () else .inl ()) := by
  unfold maxI at hl
  obtain ⟨t, q1, q2⟩ := loop_rule (step := step) (fun i s => s = (i : Int) ∧ ∀ j x, j < i → l[j]? = some x → p x = false)
      (fun t => t = if l.any p = true then .inr () else .inl ()) l.length (by
    rintro i s hi ⟨rfl, hj⟩
    rcases Nat.lt_or_ge i l.length with h | h
    · obtain ⟨x, hx, hm⟩ := get_lt h
      rw [h1 i x hx, w64 (by omega)]
      cases hp : p x with
      | false =>
        left
        simp only [Bool.false_eq_true, if_false]
        refine ⟨h, _, rfl, by simp, fun j y hj' hy => ?_⟩
        rcases Nat.lt_or_ge j i with hji | hji
        · exact hj j y hji hy
        · obtain rfl : j = i := by omega
          rw [hx] at hy; obtain rfl := Option.some.inj hy; exact hp
      | true =>
        right
        simp only [if_true]
        have : l.any p = true := List.any_eq_true.2 ⟨x, hm, hp⟩
        exact ⟨_, rfl, by rw [this]; rfl⟩
    · obtain rfl : i = l.length := by omega
      right
      rw [h2]
      have : l.any p = false := by
        rw [List.any_eq_false]
        intro x hx
        obtain ⟨j, hj'⟩ := List.getElem?_of_mem hx
        rw [hj j x (by have := (List.getElem?_eq_some_iff.1 hj').1; omega) hj']; simp
      exact ⟨_, rfl, by rw [this]; rfl⟩) (s := 0) ⟨rfl, fun j x hj => by omega⟩
  rw [q1, q2]
theorem lows_spec {a1 a2 r a4 a5 : Int} {a7 : List Int} {a8 : List (List Int)} {a9 : List SBand} {l : List Int} (hr : 0 ≤ r ∧ r ≤ 47) (hl : (l.length : Int) ≤ maxI) : loopO (spec_FrameFault_s4 a1 a2 r a4 a5 l a7 a8 a9) 0 = some (if l.any (badLow r) = true then .inr () else .inl ()) := by
  refine any_loop (badLow r) (fun i x hx => ?_) ?_ hl
  · have hi : i < l.length := (List.getElem?_eq_some_iff.1 hx).1
    simp only [spec_FrameFault_s4, decide_eq_true_eq]
    rw [if_pos (by omega), low_spec hr hx]
    simp only [Option.bind_some]
    split <;> rfl
  · simp only [spec_FrameFault_s4, decide_eq_true_eq]
    rw [if_neg (by omega)]
theorem gains_spec {r : Int} {l : List Int} (hr : 0 ≤ r ∧ r ≤ 47) (hl : (l.length : Int) ≤ maxI) : spec_l14Gains l r = some (!(l.any (badGain r))) := by
  have : loopO (spec_l14Gains_s3 l r) 0 = some (if l.any (badGain r) = true then .inr () else .inl ()) := by
    refine any_loop (badGain r) (fun i x hx => ?_) ?_ hl
    · have hi : i < l.length := (List.getElem?_eq_some_iff.1 hx).1
      simp only [spec_l14Gains_s3, decide_eq_true_eq]
      rw [if_pos (by omega), gain_spec hr hx]
      simp only [Option.bind_some]
      split <;> rfl
    · simp only [spec_l14Gains_s3, decide_eq_true_eq]
      rw [if_neg (by omega)]
  unfold spec_l14Gains
  rw [this]
  cases l.any (badGain r) <;> rfl
theorem lows_impl {b1 b2 r b4 b5 : Int} {b6 b7 : List Int} {b8 : List (List Int)} {l : List Int} (hr : 0 ≤ r ∧ r ≤ 47) (hl : (l.length : Int) ≤ maxI) : slices_ContainsFunc_int64_impl_FrameFault_1 l b1 b2 r b4 b5 b6 b7 b8 = some (l.any (badLow r)) := by
  unfold slices_ContainsFunc_int64_impl_FrameFault_1 slices_IndexFunc_int64_impl_FrameFault_1
  obtain ⟨t, h1, h2⟩ := find_loop (l := l) (badLow r) (step := slices_IndexFunc_int64_impl_FrameFault_1_s1 l b1 b2 r b4 b5 b6 b7 b8 (l.length : Int)) (fun i x hx => by
      have hi : i < l.length := (List.getElem?_eq_some_iff.1 hx).1
      simp only [slices_IndexFunc_int64_impl_FrameFault_1_s1, decide_eq_true_eq]
      rw [if_pos (by omega), getI_nat, hx]
      simp only [Option.bind_some, low_impl hr]
      split <;> rfl) (by
      simp only [slices_IndexFunc_int64_impl_FrameFault_1_s1, decide_eq_true_eq]
      rw [if_neg (by omega)]) hl
  rw [h1]
  simp only [Option.bind_some, h2]
theorem gains_impl {r m : Int} {l : List Int} (hr : 0 ≤ r ∧ r ≤ 47) (hm : 0 ≤ m ∧ m ≤ 3) (hl : (l.length : Int) ≤ maxI) : impl_gainsFault l r m = some (if l.any (badGain (gr r m)) = true then 3 else 0) := by
  unfold impl_gainsFault slices_ContainsFunc_int64_impl_gainsFault_1 slices_IndexFunc_int64_impl_gainsFault_1
  obtain ⟨t, h1, h2⟩ := find_loop (l := l) (badGain (gr r m)) (step := slices_IndexFunc_int64_impl_gainsFault_1_s1 l r m (l.length : Int)) (fun i x hx => by
      have hi : i < l.length := (List.getElem?_eq_some_iff.1 hx).1
      simp only [slices_IndexFunc_int64_impl_gainsFault_1_s1, decide_eq_true_eq]
      rw [if_pos (by omega), getI_nat, hx]
      simp only [Option.bind_some, gain_impl hr hm]
      split <;> rfl) (by
      simp only [slices_IndexFunc_int64_impl_gainsFault_1_s1, decide_eq_true_eq]
      rw [if_neg (by omega)]) hl
  rw [h1]
  simp only [Option.bind_some, h2]
  rfl
def nrm (l : List Int) : Nat := (l.map Int.natAbs).sum
theorem nrm_mem : ∀ {l : List Int} {x : Int}, x ∈ l → x.natAbs ≤ nrm l
  | y :: l, x, h => by
    simp only [nrm, List.map_cons, List.sum_cons]
    rcases List.mem_cons.1 h with rfl | h
    · omega
    · have := nrm_mem h; simp only [nrm] at this; omega
theorem nrm_take {l : List Int} {i : Nat} {x : Int} (h : l[i]? = some x) : nrm (l.take (i + 1)) = nrm (l.take i) + x.natAbs := by
  rw [List.take_add_one, h]; simp [nrm, List.sum_append]
theorem nrm_le {l : List Int} (hb : InB 8 l) : ∀ i, nrm (l.take i) ≤ 8 * i := by
  intro i
  induction i with
  | zero => simp [nrm]
  | succ i ih =>
    rcases Nat.lt_or_ge i l.length with h | h
    · obtain ⟨x, hx, hm⟩ := get_lt h
      rw [nrm_take hx]
      have := hb x hm; omega
    · rw [List.take_of_length_le (by omega)]
      rw [List.take_of_length_le h] at ih; omega
theorem norm_spec {l : List Int} (hb : InB 8 l) (hl : (l.length : Int) ≤ 1048576) : spec_l1Norm l = some (nrm l : Int) := by
  unfold spec_l1Norm
  obtain ⟨t, h1, rfl⟩ := loop_rule (step := spec_l1Norm_s1 l) (fun i s => s = ((nrm (l.take i) : Int), (i : Int))) (fun t => t = (nrm l : Int)) l.length (by
    rintro i s hi rfl
    simp only [spec_l1Norm_s1, decide_eq_true_eq]
    rcases Nat.lt_or_ge i l.length with h | h
    · left
      obtain ⟨x, hx, hm⟩ := get_lt h
      have h1 := hb x hm
      have h2 := nrm_le hb i
      have ea : spec_l1Abs x = (x.natAbs : Int) := by
        unfold spec_l1Abs
        simp only [decide_eq_true_eq]
        split
        · rw [w64 (by omega)]; omega
        · omega
      rw [if_pos (by omega), getI_nat, hx]
      simp only [Option.bind_some]
      rw [ea, w64 (n := (nrm (l.take i) : Int) + (x.natAbs : Int)) (by omega), w64 (n := (i : Int) + 1) (by omega)]
      exact ⟨h, _, rfl, by rw [nrm_take hx]; simp⟩
    · right
      rw [if_neg (by omega)]
      exact ⟨_, rfl, by rw [List.take_of_length_le h]⟩) (s := (0, 0)) (by simp [nrm])
  rw [h1]; rfl
theorem norm_impl {l : List Int} (hb : InB 8 l) (hl : (l.length : Int) ≤ 1048576) : impl_normOf l = some (nrm l : Int) := by
  unfold impl_normOf
  obtain ⟨t, h1, rfl⟩ := loop_rule (step := impl_normOf_s1 l (l.length : Int)) (fun i s => s = ((nrm (l.take i) : Int), (i : Int))) (fun t => t = (nrm l : Int)) l.length (by
    rintro i s hi rfl
    simp only [impl_normOf_s1, decide_eq_true_eq]
    rcases Nat.lt_or_ge i l.length with h | h
    · left
      obtain ⟨x, hx, hm⟩ := get_lt h
      have h1 := hb x hm
      have h2 := nrm_le hb i
      have ea : impl_abs x = (x.natAbs : Int) := by
        unfold impl_abs mxI
        rw [w64 (n := 0 - x) (by omega)]
        split <;> omega
      rw [if_pos (by omega), getI_nat, hx]
      simp only [Option.bind_some]
      rw [ea, w64 (n := (nrm (l.take i) : Int) + (x.natAbs : Int)) (by omega), w64 (n := (i : Int) + 1) (by omega)]
      exact ⟨h, _, rfl, by rw [nrm_take hx]; simp⟩
    · right
      rw [if_neg (by omega)]
      exact ⟨_, rfl, by rw [List.take_of_length_le h]⟩) (s := (0, 0)) (by simp [nrm])
  rw [h1]; rfl
theorem all_iff {B : Int} {l : List Int} : (l.all fun x => decide (-B ≤ x ∧ x ≤ B)) = true ↔ InB B l := by
  rw [List.all_eq_true]
  exact ⟨fun h x hx => of_decide_eq_true (h x hx), fun h x hx => decide_eq_true (h x hx)⟩
theorem pulses_same {l : List Int} {k : Int} (hk : 2 ≤ k ∧ k ≤ 8) (hl : (l.length : Int) ≤ 1048576) : ∃ c, spec_PulsesFault l k = some c ∧ impl_PulsesFault l k = some c ∧ (c = 0 → InB k l) := by
  have hf : ∀ a b c : Int, impl_first [a, b, c] = some (firstL [a, b, c]) := fun a b c => impl_first_eq (by simp [maxI])
  have e1 : spec_PulsesFault_u1 l k = !(decide (1 ≤ (l.length : Int) ∧ (l.length : Int) ≤ 4)) := by
    unfold spec_PulsesFault_u1
    by_cases h1 : (l.length : Int) < 1
    · rw [if_pos (decide_eq_true h1), decide_eq_false (by omega)]; rfl
    · rw [if_neg (by simpa using h1)]
      by_cases h2 : (l.length : Int) > 4
      · rw [decide_eq_true h2, decide_eq_false (by omega)]; rfl
      · rw [decide_eq_false h2, decide_eq_true (by omega)]; rfl
  obtain ⟨ok, hok1, hok2, hok3⟩ : ∃ ok : Bool, spec_PulsesFault_u2 l k = some (!ok) ∧ (impl_PulsesFault_u1 l k = some (firstL [if (!(decide (1 ≤ (l.length : Int) ∧ (l.length : Int) ≤ 4))) = true then 2 else 0, 0, if (!ok) = true then 1 else 0])) ∧ (ok = true → InB k l) := by
    unfold spec_PulsesFault_u2 impl_PulsesFault_u1 impl_isDim impl_isPulses
    simp only [impl_inRange_eq, impl_codeIf_eq]
    rw [w64 (n := 0 - k) (by omega), l1All_all (by unfold maxI; omega), allWithin_eq (by omega) (by unfold maxI; omega), decide_eq_true (show (0 ≤ k ∧ k ≤ 8) by omega)]
    have e0 : (0 - k) = -k := by omega
    rw [e0]
    by_cases h8 : InB 8 l
    · rw [all_iff.2 h8]
      simp only [Option.bind_some, if_true, norm_impl h8 hl]
      by_cases hn : (nrm l : Int) = k
      · have hkk : InB k l := fun x hx => by have := nrm_mem hx; omega
        rw [all_iff.2 hkk]
        refine ⟨true, ?_, ?_, fun _ => hkk⟩
        · simp only [if_true, norm_spec h8 hl, Option.bind_some, hn]; simp
        · simp only [hn, hf, Option.bind_some]; simp
      · refine ⟨false, ?_, ?_, fun h => by simp at h⟩
        · cases (l.all fun x => decide (-k ≤ x ∧ x ≤ k))
          · rfl
          · simp only [if_true, norm_spec h8 hl, Option.bind_some]; simp [hn]
        · simp [hn, hf]
    · have h8' : (l.all fun x => decide (-8 ≤ x ∧ x ≤ 8)) = false := by
        rw [Bool.eq_false_iff]; exact fun h => h8 (all_iff.1 h)
      have hk' : (l.all fun x => decide (-k ≤ x ∧ x ≤ k)) = false := by
        rw [Bool.eq_false_iff]; exact fun h => h8 fun x hx => by have := all_iff.1 h x hx; omega
      rw [h8', hk']
      exact ⟨false, rfl, by simp [hf], fun h => by simp at h⟩
  unfold spec_PulsesFault impl_PulsesFault
  rw [e1, hok2, hok1, spec_l1In_eq, decide_eq_true (show (0 ≤ k ∧ k ≤ 8) by omega)]
  by_cases hd : 1 ≤ (l.length : Int) ∧ (l.length : Int) ≤ 4
  · rw [decide_eq_true hd]
    simp only [Bool.not_true, Bool.false_eq_true, if_false, if_true, Option.bind_some]
    cases ok
    · exact ⟨1, rfl, rfl, fun h => by simp at h⟩
    · exact ⟨0, rfl, rfl, fun _ => hok3 rfl⟩
  · rw [decide_eq_false hd]
    exact ⟨2, rfl, rfl, fun h => by simp at h⟩
theorem head_same {n s r m p : Int} : ∃ c, impl_headFault n s r m p = some c ∧ spec_l14Head n s r m p = c ∧ (c = 0 → (0 ≤ n ∧ n ≤ 9999) ∧ spec_SizeFault s = 0 ∧ (0 ≤ r ∧ r ≤ 47) ∧ (0 ≤ m ∧ m ≤ 3) ∧ 0 ≤ p ∧ p ≤ 2) := by
  have hf : ∀ a b c : Int, impl_first [a, b, c] = some (firstL [a, b, c]) := fun a b c => impl_first_eq (by simp [maxI])
  unfold impl_headFault impl_headFault_u1 spec_l14Head spec_l14Head_u1 impl_isRung impl_isMask impl_isNumber impl_isSpread spec_l14Number spec_l9Rung spec_l13Is spec_l10Spread
  simp only [impl_inRange_eq, spec_l1In_eq, hf, impl_codeIf_eq, size_same, Option.bind_some]
  by_cases h1 : 0 ≤ n ∧ n ≤ 9999
  · rcases size_cases (n := s) with h2 | h2
    · by_cases h3 : 0 ≤ r ∧ r ≤ 47
      · by_cases h4 : 0 ≤ m ∧ m ≤ 3
        · by_cases h5 : 0 ≤ p ∧ p ≤ 2
          · rw [decide_eq_true h1, decide_eq_true h3, decide_eq_true h4, decide_eq_true h5, h2]
            exact ⟨0, rfl, rfl, fun _ => ⟨h1, rfl, h3, h4, h5⟩⟩
          · rw [decide_eq_true h1, decide_eq_true h3, decide_eq_true h4, decide_eq_false h5, h2]
            exact ⟨3, rfl, rfl, fun h => by simp at h⟩
        · rw [decide_eq_true h1, decide_eq_true h3, decide_eq_false h4, h2]
          exact ⟨3, rfl, rfl, fun h => by simp at h⟩
      · rw [decide_eq_true h1, decide_eq_false h3, h2]
        exact ⟨3, rfl, rfl, fun h => by simp at h⟩
    · rw [decide_eq_true h1, h2]
      refine ⟨3, ?_, rfl, fun h => by simp at h⟩
      by_cases h3 : 0 ≤ r ∧ r ≤ 47 <;> by_cases h4 : 0 ≤ m ∧ m ≤ 3 <;> simp [h3, h4, firstL]
  · rw [decide_eq_false h1]
    refine ⟨3, ?_, rfl, fun h => by simp at h⟩
    by_cases h3 : 0 ≤ r ∧ r ≤ 47 <;> by_cases h4 : 0 ≤ m ∧ m ≤ 3 <;> simp [h3, h4, firstL]
/-- The lists of a frame within what the law looks at. -/
structure FrLen (f : SFrame) : Prop where
  lows : (f.Lows.length : Int) ≤ 1048576
  gains : (f.Gains.length : Int) ≤ 1048576
  pulses : (f.Pulses.length : Int) ≤ 1048576
  pulse : ∀ x ∈ f.Pulses, (x.length : Int) ≤ 1048576
structure FrOk (f : SFrame) : Prop where
  size : spec_SizeFault f.Size = 0
  rung : 0 ≤ f.Rung ∧ f.Rung ≤ 47
  mask : 0 ≤ f.Mask ∧ f.Mask ≤ 3
  nlow : (f.Lows.length : Int) = f.Size.tdiv 2
  low : ∀ x ∈ f.Lows, badLow f.Rung x = false
  ngain : f.Gains.length = (spec_l13Bands f.Size).length
  gain : ∀ x ∈ f.Gains, badGain (gr f.Rung f.Mask) x = false
  npul : f.Pulses.length = (spec_l13Bands f.Size).length
  pul : ∀ (j : Nat) (b : SBand) (x : List Int), (spec_l13Bands f.Size)[j]? = some b → f.Pulses[j]? = some x → (x.length : Int) = b.Dim ∧ InB (8 - 2 * f.Mask) x
theorem bands_same {n : Int} : impl_bandsOf n = spec_l13Bands n := rfl
theorem bands_len {n : Int} : (spec_l13Bands n).length = 1 ∨ (spec_l13Bands n).length = 2 := by
  unfold spec_l13Bands
  split
  · exact .inl rfl
  · split <;> exact .inr rfl
theorem frame_same {f : SFrame} (hl : FrLen f) : ∃ c, spec_FrameFault f = some c ∧ impl_FrameFault f = some c ∧ (c = 0 → FrOk f) := by
  obtain ⟨c, h1, h2, h3⟩ := head_same (n := f.Number) (s := f.Size) (r := f.Rung) (m := f.Mask) (p := f.Spread)
  unfold spec_FrameFault impl_FrameFault
  rw [h1, h2]
  simp only [Option.bind_some]
  by_cases hc : c = 0
  · subst hc
    obtain ⟨_, z1, z2, z3, _⟩ := h3 rfl
    obtain ⟨g1, g2, g3⟩ := gr_ok z2 z3
    obtain ⟨h, hs⟩ := size_ok z1
    have n2 : IntKind.i64.wrap (f.Size.tdiv 2) = f.Size.tdiv 2 := by
      have := hs.1; have := hs.2
      rw [Int.tdiv_eq_ediv_of_nonneg (by omega), w64 (by omega)]
    have hf : ∀ a b c : Int, impl_first [a, b, c] = some (firstL [a, b, c]) := fun a b c => impl_first_eq (by simp [maxI])
    have ll := hl.lows
    have lg := hl.gains
    simp only [bne_self_eq_false, Bool.false_eq_true, if_false]
    rw [lows_impl z2 (by unfold maxI; omega), gains_impl z2 z3 (by unfold maxI; omega), lows_spec z2 (by unfold maxI; omega), g1]
    simp only [Option.bind_some, hf, impl_codeIf_eq, bands_same]
    have ec : impl_countFault f.Size f.Lows f.Gains f.Pulses = if spec_FrameFault_u1 f.Number f.Size f.Rung f.Mask f.Spread f.Lows f.Gains f.Pulses (spec_l13Bands f.Size) = true then 2 else 0 := by
      unfold impl_countFault impl_countFault_u1 spec_FrameFault_u1 impl_halfOf
      simp only [impl_codeIf_eq, bands_same]
      by_cases q1 : (f.Lows.length : Int) = IntKind.i64.wrap (f.Size.tdiv 2) <;> by_cases q2 : (f.Gains.length : Int) = ((spec_l13Bands f.Size).length : Int) <;> simp [q1, q2]
    rw [ec]
    cases hu : spec_FrameFault_u1 f.Number f.Size f.Rung f.Mask f.Spread f.Lows f.Gains f.Pulses (spec_l13Bands f.Size) with
    | true => exact ⟨2, rfl, rfl, fun h => by simp at h⟩
    | false =>
      simp only [Bool.false_eq_true, if_false]
      cases hlow : f.Lows.any (badLow f.Rung) with
      | true => exact ⟨3, rfl, rfl, fun h => by simp at h⟩
      | false =>
        simp only [Bool.false_eq_true, if_false, Sum.elim_inl, Option.bind_some]
        rw [gains_spec g3 (by unfold maxI; omega)]
        cases hgain : f.Gains.any (badGain (gr f.Rung f.Mask)) with
        | true => exact ⟨3, rfl, rfl, fun h => by simp at h⟩
        | false =>
          have e0 : firstL [0, 0, 0] = 0 := rfl
          simp only [Bool.not_false, Bool.false_eq_true, if_false, if_true, Option.bind_some, e0, bne_self_eq_false]
          have hcnt : (f.Lows.length : Int) = f.Size.tdiv 2 ∧ f.Gains.length = (spec_l13Bands f.Size).length ∧ f.Pulses.length = (spec_l13Bands f.Size).length := by
            unfold spec_FrameFault_u1 at hu
            rw [n2] at hu
            by_cases q1 : (f.Lows.length : Int) = f.Size.tdiv 2 <;> by_cases q2 : (f.Gains.length : Int) = ((spec_l13Bands f.Size).length : Int) <;> simp [q1, q2] at hu
            exact ⟨q1, by omega, by omega⟩
          unfold spec_FrameFault_u6
          have hbl := bands_len (n := f.Size)
          obtain ⟨t, s1, s2, s3⟩ := loop_same (step1 := spec_FrameFault_s5 f.Number f.Size f.Rung f.Mask f.Spread f.Lows f.Gains f.Pulses (spec_l13Bands f.Size)) (step2 := impl_FrameFault_s1 f.Number f.Size f.Rung f.Mask f.Spread f.Lows f.Gains f.Pulses (spec_l13Bands f.Size) ((spec_l13Bands f.Size).length : Int))
              (fun i s => s = (i : Int) ∧ ∀ (j : Nat) (b : SBand) (x : List Int), j < i → (spec_l13Bands f.Size)[j]? = some b → f.Pulses[j]? = some x → (x.length : Int) = b.Dim ∧ InB (8 - 2 * f.Mask) x)
              (fun t => (∃ c, t = .inr c ∧ c ≠ 0) ∨ (t = .inl () ∧ ∀ (j : Nat) (b : SBand) (x : List Int), (spec_l13Bands f.Size)[j]? = some b → f.Pulses[j]? = some x → (x.length : Int) = b.Dim ∧ InB (8 - 2 * f.Mask) x)) (spec_l13Bands f.Size).length (by
            rintro i s hi ⟨rfl, hj⟩
            rcases Nat.lt_or_ge i (spec_l13Bands f.Size).length with hq | hq
            · obtain ⟨b, hb, _⟩ := get_lt hq
              obtain ⟨x, hx, mx⟩ := get_lt (l := f.Pulses) (i := i) (by omega)
              have wm : IntKind.i64.wrap (8 - IntKind.i64.wrap (2 * f.Mask)) = 8 - 2 * f.Mask := by rw [w64 (n := 2 * f.Mask) (by omega), w64 (by omega)]
              obtain ⟨c, p1, p2, p3⟩ := pulses_same (l := x) (k := 8 - 2 * f.Mask) (by omega) (hl.pulse x mx)
              have hf2 : ∀ a b : Int, impl_first [a, b] = some (firstL [a, b]) := fun a b => impl_first_eq (by simp [maxI])
              have r1 : spec_FrameFault_s5 f.Number f.Size f.Rung f.Mask f.Spread f.Lows f.Gains f.Pulses (spec_l13Bands f.Size) (i : Int) = some (if (x.length : Int) ≠ b.Dim then .inr (.inr 2) else if c ≠ 0 then .inr (.inr c) else .inl ((i : Int) + 1)) := by
                simp only [spec_FrameFault_s5, decide_eq_true_eq]
                rw [if_pos (by omega), wm]
                simp only [getI_nat, hx, hb, Int.toNat_natCast, Option.bind_some, p1]
                by_cases q1 : (x.length : Int) = b.Dim
                · by_cases q2 : c = 0
                  · simp [q1, q2]; rw [w64 (by omega)]
                  · simp [q1, q2]
                · simp [q1]
              have r2 : impl_FrameFault_s1 f.Number f.Size f.Rung f.Mask f.Spread f.Lows f.Gains f.Pulses (spec_l13Bands f.Size) ((spec_l13Bands f.Size).length : Int) (i : Int) = some (if (x.length : Int) ≠ b.Dim then .inr (.inr 2) else if c ≠ 0 then .inr (.inr c) else .inl ((i : Int) + 1)) := by
                simp only [impl_FrameFault_s1, impl_bandFault, impl_pulsesFor, decide_eq_true_eq]
                rw [if_pos (by omega), wm]
                simp only [getI_nat, hx, hb, Int.toNat_natCast, Option.bind_some, p2, hf2, impl_codeIf_eq, firstL]
                by_cases q1 : (x.length : Int) = b.Dim
                · by_cases q2 : c = 0
                  · simp [q1, q2]; rw [w64 (by omega)]
                  · simp [q1, q2]
                · simp [q1]
              rw [r1, r2]
              refine ⟨rfl, ?_⟩
              by_cases q1 : (x.length : Int) = b.Dim
              · by_cases q2 : c = 0
                · rw [if_neg (by simp [q1]), if_neg (by simp [q2])]
                  refine .inl ⟨hq, _, rfl, by simp, fun j b' x' hj' hb' hx' => ?_⟩
                  rcases Nat.lt_or_ge j i with hji | hji
                  · exact hj j b' x' hji hb' hx'
                  · obtain rfl : j = i := by omega
                    rw [hb] at hb'; rw [hx] at hx'
                    obtain rfl := Option.some.inj hb'; obtain rfl := Option.some.inj hx'
                    exact ⟨q1, p3 q2⟩
                · rw [if_neg (by simp [q1]), if_pos q2]
                  exact .inr ⟨_, rfl, .inl ⟨c, rfl, q2⟩⟩
              · rw [if_pos q1]
                exact .inr ⟨_, rfl, .inl ⟨2, rfl, by omega⟩⟩
            · have r1 : spec_FrameFault_s5 f.Number f.Size f.Rung f.Mask f.Spread f.Lows f.Gains f.Pulses (spec_l13Bands f.Size) (i : Int) = some (.inr (.inl ())) := by
                simp only [spec_FrameFault_s5, decide_eq_true_eq]
                rw [if_neg (by omega)]
              have r2 : impl_FrameFault_s1 f.Number f.Size f.Rung f.Mask f.Spread f.Lows f.Gains f.Pulses (spec_l13Bands f.Size) ((spec_l13Bands f.Size).length : Int) (i : Int) = some (.inr (.inl ())) := by
                simp only [impl_FrameFault_s1, decide_eq_true_eq]
                rw [if_neg (by omega)]
              rw [r1, r2]
              exact ⟨rfl, .inr ⟨_, rfl, .inr ⟨rfl, fun j b x hb hx => hj j b x (by have := (List.getElem?_eq_some_iff.1 hb).1; omega) hb hx⟩⟩⟩) (s := 0) ⟨rfl, fun j b x h => by omega⟩
          rw [s1, s2]
          rcases s3 with ⟨c, rfl, hc⟩ | ⟨rfl, hp⟩
          · exact ⟨c, rfl, rfl, fun h => absurd h hc⟩
          · refine ⟨0, rfl, rfl, fun _ => ⟨z1, z2, z3, hcnt.1, fun x hx => ?_, hcnt.2.1, fun x hx => ?_, hcnt.2.2, hp⟩⟩
            · have := List.any_eq_false.1 hlow x hx; simpa using this
            · have := List.any_eq_false.1 hgain x hx; simpa using this
  · have : (c != 0) = true := by simp [hc]
    rw [this]
    exact ⟨c, rfl, rfl, fun h => absurd h hc⟩
theorem round_same : ∀ (k : Nat) (a b : Int), impl_roundDiv k a b = spec_l1Round k a b
  | 0, a, b => rfl
  | k + 1, a, b => by
    rw [impl_roundDiv, spec_l1Round]
    unfold impl_roundDiv_b spec_l1Round_b
    rw [round_same k]
theorem round_pos {k : Nat} {a b G : Int} (hk : 1 ≤ k) (hb : b = 2 ∨ b = 4 ∨ b = 6 ∨ b = 8) (hG : G ≤ 16777216) (ha : 0 ≤ a ∧ a ≤ G * b) : ∃ r, spec_l1Round k a b = some r ∧ 0 ≤ r ∧ r ≤ G := by
  obtain ⟨k, rfl⟩ : ∃ j, k = j + 1 := ⟨k - 1, by omega⟩
  rw [spec_l1Round]
  unfold spec_l1Round_b
  rw [if_neg (by simp; omega), w64 (n := 2 * b) (by omega), if_neg (by omega)]
  have hbb : G * b ≤ 134217728 := by rcases hb with rfl | rfl | rfl | rfl <;> omega
  rw [w64 (n := 2 * a) (by omega), w64 (n := 2 * a + b) (by omega), Int.tdiv_eq_ediv_of_nonneg (by omega)]
  rcases hb with rfl | rfl | rfl | rfl <;>
    (rw [w64 (by omega)]; exact ⟨_, rfl, by omega, by omega⟩)
theorem round_eq {k : Nat} {a b G : Int} (hk : 2 ≤ k) (hb : b = 2 ∨ b = 4 ∨ b = 6 ∨ b = 8) (hG : G ≤ 16777216) (ha : -(G * b) ≤ a ∧ a ≤ G * b) : ∃ r, spec_l1Round k a b = some r ∧ -G ≤ r ∧ r ≤ G := by
  by_cases h : a < 0
  · obtain ⟨k, rfl⟩ : ∃ j, k = j + 1 := ⟨k - 1, by omega⟩
    have hbb : G * b ≤ 134217728 := by rcases hb with rfl | rfl | rfl | rfl <;> omega
    obtain ⟨r, h1, h2, h3⟩ := round_pos (k := k) (a := 0 - a) (by omega) hb hG (by omega)
    refine ⟨-r, ?_, by omega, by omega⟩
    rw [spec_l1Round]
    unfold spec_l1Round_b
    rw [if_pos (by simp; omega), w64 (n := 0 - a) (by omega), h1]
    simp only [Option.bind_some]
    rw [w64 (by omega), Int.zero_sub]
  · obtain ⟨r, h1, h2, h3⟩ := round_pos (k := k) (a := a) (by omega) hb hG (by omega)
    exact ⟨r, h1, by omega, h3⟩
theorem shape_same {k : Nat} {l : List Int} {b g : Int} (hk : 2 ≤ k) (hb : b = 2 ∨ b = 4 ∨ b = 6 ∨ b = 8) (hg : 0 ≤ g ∧ g ≤ 16777216) (hl : l.length ≤ 1000) (hw : InB b l) :
    ∃ r, spec_l12Shape k l b g = some r ∧ impl_shapeOf k l b g = some r ∧ r.length = l.length ∧ InB 16777216 r := by
  obtain ⟨t, s1, s2, s3, s4⟩ := loop_same (step1 := spec_l12Shape_s1 k l b g) (step2 := impl_shapeOf_s1 k b g l (l.length : Int)) (fun i s => s.2 = (i : Int) ∧ s.1.length = i ∧ InB 16777216 s.1) (fun t => t.length = l.length ∧ InB 16777216 t) l.length (by
    rintro i ⟨a, c⟩ hi ⟨hc, ha, hb'⟩
    simp only at hc ha hb'
    subst hc
    rcases Nat.lt_or_ge i l.length with hq | hq
    · obtain ⟨x, hx, mx⟩ := get_lt hq
      have bx := hw x mx
      have m1 : g * x ≤ g * b := Int.mul_le_mul_of_nonneg_left bx.2 hg.1
      have m2 : g * (-b) ≤ g * x := Int.mul_le_mul_of_nonneg_left bx.1 hg.1
      rw [Int.mul_neg] at m2
      have m3 : g * b ≤ 134217728 := by rcases hb with rfl | rfl | rfl | rfl <;> omega
      obtain ⟨r, h1, h2, h3⟩ := round_eq (k := k) (a := g * x) (b := b) (G := g) hk hb hg.2 ⟨m2, m1⟩
      have r1 : spec_l12Shape_s1 k l b g (a, (i : Int)) = some (.inl (a ++ [r], (i : Int) + 1)) := by
        simp only [spec_l12Shape_s1, decide_eq_true_eq]
        rw [if_pos (by omega), getI_nat, hx, w64 (n := (i : Int) + 1) (by omega)]
        simp only [Option.bind_some]
        rw [w64 (n := g * x) (by omega), h1]
        simp only [Option.bind_some]
        rw [if_pos (okApp_8 (by simp; omega))]
      have r2 : impl_shapeOf_s1 k b g l (l.length : Int) (a, (i : Int)) = some (.inl (a ++ [r], (i : Int) + 1)) := by
        simp only [impl_shapeOf_s1, decide_eq_true_eq]
        rw [if_pos (by omega), getI_nat, hx, w64 (n := (i : Int) + 1) (by omega)]
        simp only [Option.bind_some]
        rw [w64 (n := g * x) (by omega), round_same, h1]
        simp only [Option.bind_some]
        rw [if_pos (okApp_8 (by simp; omega))]
      refine ⟨by rw [r1, r2], .inl ⟨hq, _, r2, by simp, by simp [ha], fun z hz => ?_⟩⟩
      rcases List.mem_append.1 hz with hz | hz
      · exact hb' z hz
      · rw [List.mem_singleton] at hz; subst hz; omega
    · have r1 : spec_l12Shape_s1 k l b g (a, (i : Int)) = some (.inr a) := by
        simp only [spec_l12Shape_s1, decide_eq_true_eq]
        rw [if_neg (by omega)]
      have r2 : impl_shapeOf_s1 k b g l (l.length : Int) (a, (i : Int)) = some (.inr a) := by
        simp only [impl_shapeOf_s1, decide_eq_true_eq]
        rw [if_neg (by omega)]
      exact ⟨by rw [r1, r2], .inr ⟨_, r2, by omega, hb'⟩⟩) (s := ([], 0)) ⟨rfl, rfl, fun x hx => by simp at hx⟩
  refine ⟨t, ?_, ?_, s3, s4⟩
  · unfold spec_l12Shape; rw [s1]; rfl
  · unfold impl_shapeOf; rw [s2]; rfl
theorem bands_dim {n : Int} {h : Nat} (hs : SizeOk n h) : ∃ d : Nat, (d = 2 ∨ d = 4) ∧ (spec_l13Bands n).length * d = h ∧ ∀ (j : Nat) (b : SBand), (spec_l13Bands n)[j]? = some b → b.Dim = (d : Int) := by
  obtain ⟨h1, h2⟩ := hs
  rcases h2 with rfl | rfl | rfl <;> subst h1
  · refine ⟨2, .inl rfl, rfl, fun j b hb => ?_⟩
    have : b ∈ spec_l13Bands (2 * ((2 : Nat) : Int)) := List.mem_of_getElem? hb
    simp [spec_l13Bands] at this
    rw [this]; rfl
  · refine ⟨2, .inl rfl, rfl, fun j b hb => ?_⟩
    have : b ∈ spec_l13Bands (2 * ((4 : Nat) : Int)) := List.mem_of_getElem? hb
    simp [spec_l13Bands] at this
    rcases this with rfl | rfl <;> rfl
  · refine ⟨4, .inr rfl, rfl, fun j b hb => ?_⟩
    have : b ∈ spec_l13Bands (2 * ((8 : Nat) : Int)) := List.mem_of_getElem? hb
    simp [spec_l13Bands] at this
    rcases this with rfl | rfl <;> rfl
theorem central_same {k : Nat} {f : SFrame} (hk : 2 ≤ k) (hf : impl_FrameFault f = some 0) (o : FrOk f) :
    ∃ c h, SizeOk f.Size h ∧ spec_l14Central k f = some c ∧ impl_CentralCoefs k f = some ⟨0, c⟩ ∧ c.length = 2 * h ∧ InB 16777216 c := by
  obtain ⟨z1, z2, z3, o1, o2, o3, o4, o5, o6⟩ := o
  obtain ⟨h, hs⟩ := size_ok z1
  obtain ⟨d, hd, hbl, hdim⟩ := bands_dim hs
  obtain ⟨g1, g2, g3⟩ := gr_ok z2 z3
  obtain ⟨t1, t2, t3, t4⟩ := step_eq z2
  obtain ⟨v1, v2, v3, v4⟩ := step_eq g3
  have hh := hs.1
  have hh2 := hs.2
  have nl : f.Lows.length = h := by rw [Int.tdiv_eq_ediv_of_nonneg (by omega)] at o1; omega
  have hbl2 := bands_len (n := f.Size)
  have wm : IntKind.i64.wrap (8 - IntKind.i64.wrap (2 * f.Mask)) = 8 - 2 * f.Mask := by rw [w64 (n := 2 * f.Mask) (by omega), w64 (by omega)]
  obtain ⟨y, a1, a2, a3, a4⟩ := loop_same (step1 := spec_l14Central_s1 k f.Number f.Size f.Rung f.Mask f.Spread f.Lows f.Gains f.Pulses) (step2 := impl_CentralCoefs_s1 k f.Number f.Size f.Rung f.Mask f.Spread f.Lows f.Gains f.Pulses (f.Lows.length : Int)) (fun i s => s.2 = (i : Int) ∧ s.1.length = i ∧ InB 16777216 s.1) (fun t => t.length = h ∧ InB 16777216 t) h (by
    rintro i ⟨a, c⟩ hi ⟨hc, ha, hb'⟩
    simp only at hc ha hb'
    subst hc
    rcases Nat.lt_or_ge i h with hq | hq
    · obtain ⟨x, hx, mx⟩ := get_lt (l := f.Lows) (i := i) (by omega)
      have bx := o2 x mx
      simp only [badLow, fitsB, Bool.not_eq_false', Bool.and_eq_true, decide_eq_true_eq] at bx
      obtain ⟨bx1, bx2⟩ := bx
      have r1 : spec_l14Central_s1 k f.Number f.Size f.Rung f.Mask f.Spread f.Lows f.Gains f.Pulses (a, (i : Int)) = some (.inl (a ++ [x * stepv f.Rung], (i : Int) + 1)) := by
        simp only [spec_l14Central_s1, decide_eq_true_eq]
        rw [if_pos (by omega), getI_nat, hx, w64 (n := (i : Int) + 1) (by omega), t1]
        simp only [Option.bind_some]
        rw [w64 (n := x * stepv f.Rung) (by omega), if_pos (okApp_8 (by simp; omega))]
      have r2 : impl_CentralCoefs_s1 k f.Number f.Size f.Rung f.Mask f.Spread f.Lows f.Gains f.Pulses (f.Lows.length : Int) (a, (i : Int)) = some (.inl (a ++ [x * stepv f.Rung], (i : Int) + 1)) := by
        simp only [impl_CentralCoefs_s1, decide_eq_true_eq]
        rw [if_pos (by omega), getI_nat, hx, w64 (n := (i : Int) + 1) (by omega), t2]
        simp only [Option.bind_some]
        rw [w64 (n := x * stepv f.Rung) (by omega), if_pos (okApp_8 (by simp; omega))]
      refine ⟨by rw [r1, r2], .inl ⟨hq, _, r2, by simp, by simp [ha], fun z hz => ?_⟩⟩
      rcases List.mem_append.1 hz with hz | hz
      · exact hb' z hz
      · rw [List.mem_singleton] at hz; subst hz; omega
    · have r1 : spec_l14Central_s1 k f.Number f.Size f.Rung f.Mask f.Spread f.Lows f.Gains f.Pulses (a, (i : Int)) = some (.inr a) := by
        simp only [spec_l14Central_s1, decide_eq_true_eq]
        rw [if_neg (by omega)]
      have r2 : impl_CentralCoefs_s1 k f.Number f.Size f.Rung f.Mask f.Spread f.Lows f.Gains f.Pulses (f.Lows.length : Int) (a, (i : Int)) = some (.inr a) := by
        simp only [impl_CentralCoefs_s1, decide_eq_true_eq]
        rw [if_neg (by omega)]
      exact ⟨by rw [r1, r2], .inr ⟨_, r2, by omega, hb'⟩⟩) (s := ([], 0)) ⟨rfl, rfl, fun x hx => by simp at hx⟩
  obtain ⟨q, b1, b2, b3, b4⟩ := loop_same (step1 := spec_l14Central_s2 k f.Number f.Size f.Rung f.Mask f.Spread f.Lows f.Gains f.Pulses (stepv (gr f.Rung f.Mask))) (step2 := impl_CentralCoefs_s2 k f.Number f.Size f.Rung f.Mask f.Spread f.Lows f.Gains f.Pulses (f.Gains.length : Int)) (fun i s => s.2 = (i : Int) ∧ s.1.length = h + i * d ∧ InB 16777216 s.1) (fun t => t.length = 2 * h ∧ InB 16777216 t) f.Gains.length (by
    rintro i ⟨a, c⟩ hi ⟨hc, ha, hb'⟩
    simp only at hc ha hb'
    subst hc
    rcases Nat.lt_or_ge i f.Gains.length with hq | hq
    · obtain ⟨g, hg, mg⟩ := get_lt (l := f.Gains) (i := i) (by omega)
      obtain ⟨x, hx, mx⟩ := get_lt (l := f.Pulses) (i := i) (by omega)
      obtain ⟨b, hb, _⟩ := get_lt (l := spec_l13Bands f.Size) (i := i) (by omega)
      obtain ⟨e1, e2⟩ := o6 i b x hb hx
      rw [hdim i b hb] at e1
      have bx := o4 g mg
      simp only [badGain, fitsB, Bool.not_eq_false', Bool.and_eq_true, decide_eq_true_eq] at bx
      obtain ⟨bx1, bx2⟩ := bx
      have bx3 : 0 ≤ g * stepv (gr f.Rung f.Mask) := Int.mul_nonneg bx1.1 (by omega)
      obtain ⟨s, s1, s2, s3, s4⟩ := shape_same (k := k) (l := x) (b := 8 - 2 * f.Mask) (g := g * stepv (gr f.Rung f.Mask)) hk (by omega) ⟨bx3, bx2.2⟩ (by omega) e2
      have hlen : a.length ≤ 1000 := by rcases hd with rfl | rfl <;> omega
      have r1 : spec_l14Central_s2 k f.Number f.Size f.Rung f.Mask f.Spread f.Lows f.Gains f.Pulses (stepv (gr f.Rung f.Mask)) (a, (i : Int)) = some (.inl (a ++ s, (i : Int) + 1)) := by
        simp only [spec_l14Central_s2, decide_eq_true_eq]
        rw [if_pos (by omega), w64 (n := (i : Int) + 1) (by omega), wm]
        simp only [getI_nat, hg, hx, Option.bind_some]
        rw [w64 (n := g * stepv (gr f.Rung f.Mask)) (by omega), s1]
        simp only [Option.bind_some]
        rw [if_pos (okApp_8 (by simp; omega))]
      have r2 : impl_CentralCoefs_s2 k f.Number f.Size f.Rung f.Mask f.Spread f.Lows f.Gains f.Pulses (f.Gains.length : Int) (a, (i : Int)) = some (.inl (a ++ s, (i : Int) + 1)) := by
        simp only [impl_CentralCoefs_s2, impl_gainOf, impl_pulsesFor, decide_eq_true_eq]
        rw [if_pos (by omega), w64 (n := (i : Int) + 1) (by omega), wm, g2, v2]
        simp only [getI_nat, hg, hx, Option.bind_some]
        rw [w64 (n := g * stepv (gr f.Rung f.Mask)) (by omega), s2]
        simp only [Option.bind_some]
        rw [if_pos (okApp_8 (by simp; omega))]
      refine ⟨by rw [r1, r2], .inl ⟨hq, _, r2, by simp, ?_, fun z hz => ?_⟩⟩
      · simp only [List.length_append, ha, s3, Nat.succ_mul]; omega
      · rcases List.mem_append.1 hz with hz | hz
        · exact hb' z hz
        · exact s4 z hz
    · have r1 : spec_l14Central_s2 k f.Number f.Size f.Rung f.Mask f.Spread f.Lows f.Gains f.Pulses (stepv (gr f.Rung f.Mask)) (a, (i : Int)) = some (.inr a) := by
        simp only [spec_l14Central_s2, decide_eq_true_eq]
        rw [if_neg (by omega)]
      have r2 : impl_CentralCoefs_s2 k f.Number f.Size f.Rung f.Mask f.Spread f.Lows f.Gains f.Pulses (f.Gains.length : Int) (a, (i : Int)) = some (.inr a) := by
        simp only [impl_CentralCoefs_s2, decide_eq_true_eq]
        rw [if_neg (by omega)]
      have : i = (spec_l13Bands f.Size).length := by omega
      rw [this, hbl] at ha
      exact ⟨by rw [r1, r2], .inr ⟨_, r2, by omega, hb'⟩⟩) (s := (y, 0)) ⟨rfl, by simp [a3], a4⟩
  refine ⟨q, h, hs, ?_, ?_, b3, b4⟩
  · unfold spec_l14Central
    rw [a1, g1, v1]
    simp only [Option.bind_some, b1]
  · unfold impl_CentralCoefs
    rw [hf]
    simp only [Option.bind_some, bne_self_eq_false, Bool.false_eq_true, if_false, a2, b2]
theorem toInt64SS_eq {l : List (List Int)} (hl : (l.length : Int) ≤ 1048576) (hw : ∀ x ∈ l, (x.length : Int) ≤ 1048576) : laws_toInt64SS l = some l := by
  unfold laws_toInt64SS
  rw [if_pos (okMake_of (by omega) (by simp; omega) (by omega)), Int.toNat_natCast, copy_loop (fun a i x y hx hy ha => ?_) (fun a => ?_) (by unfold maxI; omega)]
  · rfl
  · have hi : i < l.length := (List.getElem?_eq_some_iff.1 hx).1
    simp only [laws_toInt64SS_s1, decide_eq_true_eq]
    rw [if_pos (by omega), getI_nat, hx]
    have hm := hw x (List.mem_of_getElem? hx)
    simp only [Option.bind_some, laws_toInt64S_eq (l := x) (by omega)]
    rw [getI_nat, hy, Int.toNat_natCast, hy]; rfl
  · simp only [laws_toInt64SS_s1, decide_eq_true_eq]; rw [if_neg (by omega)]
theorem toFrame_eq {s : SFrame} (h1 : (s.Lows.length : Int) ≤ 1048576) (h2 : (s.Gains.length : Int) ≤ 1048576) (h3 : (s.Pulses.length : Int) ≤ 1048576) (h4 : ∀ x ∈ s.Pulses, (x.length : Int) ≤ 1048576) : laws_toFrame s = some s := by
  unfold laws_toFrame
  rw [laws_toInt64S_eq (by omega), laws_toInt64S_eq (by omega), toInt64SS_eq h3 h4]; rfl
theorem szI_spec {l : List Int} {n : Int} (hn : 0 ≤ n ∧ n ≤ 1048576) (hl : (l.length : Int) ≤ maxI) : laws_szInt64S l n < 0 ∨ (0 ≤ laws_szInt64S l n ∧ laws_szInt64S l n ≤ n ∧ (l.length : Int) ≤ n) := by
  unfold maxI at hl
  simp only [laws_szInt64S, decide_eq_true_eq]
  rw [w64 (by omega)]
  split <;> omega
theorem szII_spec {l : List (List Int)} {n : Int} (hn : 0 ≤ n ∧ n ≤ 1048576) (hl : (l.length : Int) ≤ maxI) (hw : ∀ x ∈ l, (x.length : Int) ≤ maxI) :
    ∃ r, laws_szInt64SS l n = some r ∧ (r < 0 ∨ (0 ≤ r ∧ r ≤ n ∧ (l.length : Int) ≤ n ∧ ∀ x ∈ l, (x.length : Int) ≤ n)) := by
  unfold maxI at hl
  unfold laws_szInt64SS
  rw [w64 (by omega)]
  by_cases h0 : n - l.length < 0
  · rw [if_pos (decide_eq_true h0)]; exact ⟨_, rfl, .inl (by omega)⟩
  · rw [if_neg (by simpa using h0)]
    obtain ⟨t, q1, q2⟩ := loop_rule (step := laws_szInt64SS_s1 l) (fun i s => s.2 = (i : Int) ∧ 0 ≤ s.1 ∧ s.1 ≤ n ∧ ∀ j x, j < i → l[j]? = some x → (x.length : Int) ≤ n)
        (fun t => (∃ r, t = .inl r ∧ 0 ≤ r ∧ r ≤ n ∧ ∀ x ∈ l, (x.length : Int) ≤ n) ∨ t = .inr ()) l.length (by
      rintro i ⟨a, k⟩ hi ⟨hk, h1, h2, hj⟩
      simp only at hk h1 h2 hj
      subst hk
      simp only [laws_szInt64SS_s1, decide_eq_true_eq]
      rcases Nat.lt_or_ge i l.length with h | h
      · obtain ⟨x, hx, hm⟩ := get_lt h
        rw [if_pos (by omega), getI_nat, hx, w64 (n := (i : Int) + 1) (by omega)]
        simp only [Option.bind_some]
        by_cases hc : laws_szInt64S x a < 0
        · right; rw [if_pos hc]; exact ⟨_, rfl, .inr rfl⟩
        · left
          rw [if_neg hc]
          rcases szI_spec (l := x) (n := a) (by omega) (hw x hm) with e | ⟨e1, e2, e3⟩
          · omega
          · refine ⟨h, _, rfl, by simp, e1, by simp only []; omega, fun j y hj' hy => ?_⟩
            rcases Nat.lt_or_ge j i with hji | hji
            · exact hj j y hji hy
            · obtain rfl : j = i := by omega
              rw [hx] at hy; obtain rfl := Option.some.inj hy; omega
      · right
        rw [if_neg (by omega)]
        refine ⟨_, rfl, .inl ⟨a, rfl, h1, h2, fun x hx => ?_⟩⟩
        obtain ⟨j, hj'⟩ := List.getElem?_of_mem hx
        exact hj j x (by have := (List.getElem?_eq_some_iff.1 hj').1; omega) hj') (s := (n - l.length, 0)) ⟨rfl, by simp only []; omega, by simp only []; omega, fun j x hj => by omega⟩
    rw [q1]
    rcases q2 with ⟨r, rfl, h1, h2, h3⟩ | rfl
    · exact ⟨r, rfl, .inr ⟨h1, h2, by omega, h3⟩⟩
    · exact ⟨-1, rfl, .inl (by omega)⟩
theorem eqInt64SS_self {l : List (List Int)} (hl : (l.length : Int) ≤ 1048576) (hw : ∀ x ∈ l, (x.length : Int) ≤ 1048576) : laws_eqInt64SS l l = some true := by
  unfold laws_eqInt64SS
  rw [if_neg (by simp)]
  obtain ⟨t, h1, rfl⟩ := loop_rule (step := laws_eqInt64SS_s1 l l) (fun i s => s = (i : Int)) (fun t => t = .inl ()) l.length (by
    rintro i s hi rfl
    simp only [laws_eqInt64SS_s1, decide_eq_true_eq]
    rcases Nat.lt_or_ge i l.length with h | h
    · left
      obtain ⟨x, hx, hm⟩ := get_lt h
      rw [if_pos (by omega), getI_nat, hx, w64 (by omega)]
      simp only [Option.bind_some, laws_eqInt64S_self (l := x) (by have := hw x hm; unfold maxI; omega), if_true]
      exact ⟨h, _, rfl, by simp⟩
    · right
      rw [if_neg (by omega)]
      exact ⟨_, rfl, rfl⟩) (s := 0) rfl
  rw [h1]; rfl
theorem eqFrame_self {s : SFrame} (h1 : (s.Lows.length : Int) ≤ 1048576) (h2 : (s.Gains.length : Int) ≤ 1048576) (h3 : (s.Pulses.length : Int) ≤ 1048576) (h4 : ∀ x ∈ s.Pulses, (x.length : Int) ≤ 1048576) : laws_eqFrame s s = some true := by
  have e1 := laws_eqInt64S_self (l := s.Lows) (by unfold maxI; omega)
  have e2 := laws_eqInt64S_self (l := s.Gains) (by unfold maxI; omega)
  have e3 := eqInt64SS_self h3 h4
  simp [laws_eqFrame, laws_eqFrame_u1, laws_eqFrame_u2, e1, e2, e3]
theorem szF_spec {s : SFrame} {n : Int} (hn : 0 ≤ n ∧ n ≤ 1048576) (w : s.Wf) : ∃ r, laws_szFrame s n = some r ∧ (r < 0 ∨ (0 ≤ r ∧ r ≤ n ∧ FrLen s)) := by
  obtain ⟨_, _, _, _, _, ⟨w1, _⟩, ⟨w2, _⟩, w3, w4⟩ := w
  unfold laws_szFrame
  simp only [decide_eq_true_eq]
  rcases szI_spec (l := s.Lows) hn w1 with e | ⟨a1, a2, a3⟩
  · rw [if_pos e]; exact ⟨_, rfl, .inl (by omega)⟩
  rw [if_neg (by omega)]
  rcases szI_spec (l := s.Gains) (n := laws_szInt64S s.Lows n) (by omega) w2 with e | ⟨b1, b2, b3⟩
  · rw [if_pos e]; exact ⟨_, rfl, .inl (by omega)⟩
  rw [if_neg (by omega)]
  obtain ⟨r, c1, c2⟩ := szII_spec (l := s.Pulses) (n := laws_szInt64S s.Gains (laws_szInt64S s.Lows n)) (by omega) w3 (fun x hx => (w4 x hx).1)
  rw [c1]
  simp only [Option.bind_some]
  rcases c2 with c2 | ⟨c2, c3, c4, c5⟩
  · rw [if_pos c2]; exact ⟨_, rfl, .inl (by omega)⟩
  rw [if_neg (by omega)]
  exact ⟨_, rfl, .inr ⟨c2, by omega, ⟨by omega, by omega, by omega, fun x hx => by have := c5 x hx; omega⟩⟩⟩
theorem szFS_spec {l : List SFrame} {n : Int} (hn : 0 ≤ n ∧ n ≤ 1048576) (hl : (l.length : Int) ≤ maxI) (hw : ∀ x ∈ l, x.Wf) :
    ∃ r, laws_szFrameS l n = some r ∧ (r < 0 ∨ (0 ≤ r ∧ r ≤ n ∧ (l.length : Int) ≤ n ∧ ∀ x ∈ l, FrLen x)) := by
  unfold maxI at hl
  unfold laws_szFrameS
  rw [w64 (by omega)]
  by_cases h0 : n - l.length < 0
  · rw [if_pos (decide_eq_true h0)]; exact ⟨_, rfl, .inl (by omega)⟩
  · rw [if_neg (by simpa using h0)]
    obtain ⟨t, q1, q2⟩ := loop_rule (step := laws_szFrameS_s1 l) (fun i s => s.2 = (i : Int) ∧ 0 ≤ s.1 ∧ s.1 ≤ n ∧ ∀ j x, j < i → l[j]? = some x → FrLen x)
        (fun t => (∃ r, t = .inl r ∧ 0 ≤ r ∧ r ≤ n ∧ ∀ x ∈ l, FrLen x) ∨ t = .inr ()) l.length (by
      rintro i ⟨a, k⟩ hi ⟨hk, h1, h2, hj⟩
      simp only at hk h1 h2 hj
      subst hk
      simp only [laws_szFrameS_s1, decide_eq_true_eq]
      rcases Nat.lt_or_ge i l.length with h | h
      · obtain ⟨x, hx, hm⟩ := get_lt h
        rw [if_pos (by omega), getI_nat, hx, w64 (n := (i : Int) + 1) (by omega)]
        obtain ⟨r, e1, e2⟩ := szF_spec (s := x) (n := a) (by omega) (hw x hm)
        simp only [Option.bind_some, e1]
        by_cases hc : r < 0
        · right; rw [if_pos hc]; exact ⟨_, rfl, .inr rfl⟩
        · left
          rw [if_neg hc]
          rcases e2 with e | ⟨e1, e2, e3⟩
          · omega
          · refine ⟨h, _, rfl, by simp, e1, by simp only []; omega, fun j y hj' hy => ?_⟩
            rcases Nat.lt_or_ge j i with hji | hji
            · exact hj j y hji hy
            · obtain rfl : j = i := by omega
              rw [hx] at hy; obtain rfl := Option.some.inj hy; exact e3
      · right
        rw [if_neg (by omega)]
        refine ⟨_, rfl, .inl ⟨a, rfl, h1, h2, fun x hx => ?_⟩⟩
        obtain ⟨j, hj'⟩ := List.getElem?_of_mem hx
        exact hj j x (by have := (List.getElem?_eq_some_iff.1 hj').1; omega) hj') (s := (n - l.length, 0)) ⟨rfl, by simp only []; omega, by simp only []; omega, fun j x hj => by omega⟩
    rw [q1]
    rcases q2 with ⟨r, rfl, h1, h2, h3⟩ | rfl
    · exact ⟨r, rfl, .inr ⟨h1, h2, by omega, h3⟩⟩
    · exact ⟨-1, rfl, .inl (by omega)⟩
theorem toFrameS_eq {l : List SFrame} (hl : (l.length : Int) ≤ 1048576) (hw : ∀ x ∈ l, FrLen x) : laws_toFrameS l = some l := by
  unfold laws_toFrameS
  rw [if_pos (okMake_of (by omega) (by simp; omega) (by omega)), Int.toNat_natCast, copy_loop (fun a i x y hx hy ha => ?_) (fun a => ?_) (by unfold maxI; omega)]
  · rfl
  · have hi : i < l.length := (List.getElem?_eq_some_iff.1 hx).1
    simp only [laws_toFrameS_s1, decide_eq_true_eq]
    rw [if_pos (by omega), getI_nat, hx]
    have o := hw x (List.mem_of_getElem? hx)
    simp only [Option.bind_some, toFrame_eq o.lows o.gains o.pulses o.pulse]
    rw [getI_nat, hy, Int.toNat_natCast, hy]; rfl
  · simp only [laws_toFrameS_s1, decide_eq_true_eq]; rw [if_neg (by omega)]
theorem eqFrameS_self {l : List SFrame} (hl : (l.length : Int) ≤ 1048576) (hw : ∀ x ∈ l, FrLen x) : laws_eqFrameS l l = some true := by
  unfold laws_eqFrameS
  rw [if_neg (by simp)]
  obtain ⟨t, h1, rfl⟩ := loop_rule (step := laws_eqFrameS_s1 l l) (fun i s => s = (i : Int)) (fun t => t = .inl ()) l.length (by
    rintro i s hi rfl
    simp only [laws_eqFrameS_s1, decide_eq_true_eq]
    rcases Nat.lt_or_ge i l.length with h | h
    · left
      obtain ⟨x, hx, hm⟩ := get_lt h
      have o := hw x hm
      rw [if_pos (by omega), getI_nat, hx, w64 (by omega)]
      simp only [Option.bind_some, eqFrame_self o.lows o.gains o.pulses o.pulse, if_true]
      exact ⟨h, _, rfl, by simp⟩
    · right
      rw [if_neg (by omega)]
      exact ⟨_, rfl, rfl⟩) (s := 0) rfl
  rw [h1]; rfl
/-- Marks in rows of rows, and that they hold. -/
theorem marksSS {l : List (List Int)} {k : Int} (hk : 0 ≤ k ∧ k ≤ 4611686018427387904) (hl : (l.length : Int) ≤ 1048576) (hw : ∀ x ∈ l, (x.length : Int) ≤ 1048576) :
    ∃ k' l', laws_markInt64SS l k = some (k', l') ∧ k ≤ k' ∧ k' ≤ k + 1099511627776 ∧ l'.length = l.length ∧ (∀ x ∈ l', (x.length : Int) ≤ 1048576) ∧ laws_heldInt64SS l' k = some k' := by
  have hs : ∀ i (x : List Int), l[i]? = some x → (l.take (i + 1)).flatten.length = (l.take i).flatten.length + x.length := fun i x hx => by
    rw [List.take_add_one, hx]; simp
  have hf : ∀ i : Nat, ((l.take i).flatten.length : Int) ≤ 1048576 * (i : Int) := by
    intro i
    induction i with
    | zero => simp
    | succ i ih =>
      rcases Nat.lt_or_ge i l.length with h | h
      · obtain ⟨x, hx, hm⟩ := get_lt h
        have := hw x hm
        rw [hs i x hx]; omega
      · rw [List.take_of_length_le (by omega)]
        rw [List.take_of_length_le h] at ih
        omega
  have htot := hf l.length
  rw [List.take_of_length_le (Nat.le_refl _)] at htot
  unfold laws_markInt64SS
  obtain ⟨t, h1, h2, h3, h4, h5⟩ := loop_rule (step := laws_markInt64SS_s1) (fun i s => s.2.1 = k + ((l.take i).flatten.length : Int) ∧ s.2.2 = (i : Int) ∧ s.1.length = l.length ∧ (∀ x ∈ s.1, (x.length : Int) ≤ 1048576) ∧ (∀ j, i ≤ j → s.1[j]? = l[j]?) ∧ ∀ j x, j < i → s.1[j]? = some x → laws_heldInt64S x (k + ((l.take j).flatten.length : Int)) = some (k + ((l.take (j + 1)).flatten.length : Int)))
      (fun t => t.2 = k + (l.flatten.length : Int) ∧ t.1.length = l.length ∧ (∀ x ∈ t.1, (x.length : Int) ≤ 1048576) ∧ ∀ j x, j < l.length → t.1[j]? = some x → laws_heldInt64S x (k + ((l.take j).flatten.length : Int)) = some (k + ((l.take (j + 1)).flatten.length : Int))) l.length (by
    rintro i ⟨a, m, n⟩ hi ⟨hm1, hn, ha, hj, hu, hd⟩
    simp only at hm1 hn ha hj hu hd
    subst hn hm1
    simp only [laws_markInt64SS_s1, decide_eq_true_eq]
    have hfi := hf i
    rcases Nat.lt_or_ge i l.length with hh | hh
    · left
      obtain ⟨x, hx, hxm⟩ := get_lt (l := a) (i := i) (by omega)
      have hxl := hj x hxm
      have hlx : l[i]? = some x := by rw [← hu i (Nat.le_refl _)]; exact hx
      obtain ⟨x', m1, m2, m3⟩ := laws_markInt64S_eq (l := x) (k := k + ((l.take i).flatten.length : Int)) (by omega) (by unfold maxI; omega)
      rw [if_pos (by omega), getI_nat, hx, Int.toNat_natCast, hx, w64 (by omega)]
      simp only [Option.bind_some, m1, m2, if_true]
      have e2 := hs i x hlx
      refine ⟨hh, _, rfl, by simp only []; omega, by simp, by simp [ha], fun y hy => ?_, fun j hj' => ?_, fun j y hj' hy => ?_⟩
      · rcases List.mem_or_eq_of_mem_set hy with e | e
        · exact hj y e
        · rw [e, m2]; exact hxl
      · simp only []
        rw [List.getElem?_set_ne (by omega)]; exact hu j (by omega)
      · simp only [] at hy
        rcases Nat.lt_or_ge j i with hji | hji
        · rw [List.getElem?_set_ne (by omega)] at hy
          exact hd j y hji hy
        · obtain rfl : j = i := by omega
          rw [List.getElem?_set_self (by omega)] at hy
          obtain rfl := Option.some.inj hy
          rw [m3]; congr 1; omega
    · right
      rw [if_neg (by omega)]
      rw [List.take_of_length_le hh] at *
      exact ⟨_, rfl, rfl, ha, hj, fun j x hj' => hd j x (by omega)⟩) (s := (l, k, 0)) ⟨by simp, rfl, rfl, hw, fun _ _ => rfl, fun j x h => by omega⟩
  rw [h1]
  obtain ⟨l', k'⟩ := t
  simp only at h2 h3 h4 h5
  refine ⟨k', l', rfl, by omega, by omega, h3, h4, ?_⟩
  unfold laws_heldInt64SS
  obtain ⟨t, q1, rfl⟩ := loop_rule (step := laws_heldInt64SS_s1 l') (fun i s => s = (k + ((l.take i).flatten.length : Int), (i : Int))) (fun t => t = .inl k') l'.length (by
    rintro i s hi rfl
    simp only [laws_heldInt64SS_s1, decide_eq_true_eq]
    have hfi := hf (i + 1)
    rcases Nat.lt_or_ge i l'.length with hh | hh
    · left
      obtain ⟨x, hx, hxm⟩ := get_lt hh
      rw [if_pos (by omega), getI_nat, hx]
      simp only [Option.bind_some, h5 i x (by omega) hx]
      rw [if_neg (by omega), w64 (by omega)]
      exact ⟨hh, _, rfl, by simp⟩
    · right
      rw [if_neg (by omega), h2, List.take_of_length_le (by omega)]
      exact ⟨_, rfl, rfl⟩) (s := (k, 0)) (by simp)
  rw [q1]; rfl
theorem loop_sim {ς τ1 τ2 : Type} {step1 : ς → Option (ς ⊕ τ1)} {step2 : ς → Option (ς ⊕ τ2)} (f : τ1 → τ2) (I : Nat → ς → Prop) (Q : τ1 → Prop) (n : Nat)
    (h : ∀ i s, i ≤ n → I i s → (i < n ∧ ∃ s', step1 s = some (.inl s') ∧ step2 s = some (.inl s') ∧ I (i + 1) s') ∨ ∃ t, step1 s = some (.inr t) ∧ step2 s = some (.inr (f t)) ∧ Q t) {s : ς} (h0 : I 0 s) : ∃ t, loopO step1 s = some t ∧ loopO step2 s = some (f t) ∧ Q t := by
  have key : ∀ m i s, n - i = m → i ≤ n → I i s → ∃ t, loopO step1 s = some t ∧ loopO step2 s = some (f t) ∧ Q t := by
    intro m
    induction m with
    | zero =>
      intro i s hm hi hI
      rcases h i s hi hI with ⟨h1, _⟩ | ⟨t, h1, h2, h3⟩
      · omega
      · exact ⟨t, by rw [loopO_eq, h1], by rw [loopO_eq, h2], h3⟩
    | succ m ih =>
      intro i s hm hi hI
      rcases h i s hi hI with ⟨h1, s', h2, h3, h4⟩ | ⟨t, h1, h2, h3⟩
      · obtain ⟨t, k1, k2, k3⟩ := ih (i + 1) s' (by omega) (by omega) h4
        exact ⟨t, by rw [loopO_eq, h2]; exact k1, by rw [loopO_eq, h3]; exact k2, k3⟩
      · exact ⟨t, by rw [loopO_eq, h1], by rw [loopO_eq, h2], h3⟩
  exact key (n - 0) 0 s rfl (Nat.zero_le _) h0
theorem clamp_same {x : Int} : impl_Clamp16 x = spec_Clamp16 x := by
  unfold impl_Clamp16 spec_Clamp16 mnI mxI
  simp only [decide_eq_true_eq]
  (repeat' split) <;> omega
theorem clamped_spec {l : List Int} (hl : l.length ≤ 1000) : spec_l21Clamped l = some (l.map spec_Clamp16) := by
  unfold spec_l21Clamped
  obtain ⟨t, h1, rfl⟩ := loop_rule (step := spec_l21Clamped_s1 l) (fun i s => s = ((l.take i).map spec_Clamp16, (i : Int))) (fun t => t = l.map spec_Clamp16) l.length (by
    rintro i s hi rfl
    simp only [spec_l21Clamped_s1, decide_eq_true_eq]
    rcases Nat.lt_or_ge i l.length with h | h
    · left
      obtain ⟨x, hx, _⟩ := get_lt h
      rw [if_pos (by omega), getI_nat, hx]
      simp only [Option.bind_some]
      rw [if_pos (okApp_8 (by simp; omega)), w64 (by omega)]
      exact ⟨h, _, rfl, by rw [List.take_add_one, hx]; simp⟩
    · right
      rw [if_neg (by omega)]
      exact ⟨_, rfl, by rw [List.take_of_length_le h]⟩) (s := ([], 0)) (by simp)
  rw [h1]; rfl
theorem clamped_impl {k : Nat} {a178 a182 a185 a186 : Int} {a179 a180 : List Int} {a181 : List (List Int)} {a184 : List SFrame} {l : List Int} (hl : l.length ≤ 1000) : loopO (impl_ReferenceOf_s5 k a178 a179 a180 a181 a182 a184 a185 a186 (l.length : Int)) (l, 0) = some (l.map spec_Clamp16) := by
  obtain ⟨t, h1, rfl⟩ := loop_rule (step := impl_ReferenceOf_s5 k a178 a179 a180 a181 a182 a184 a185 a186 (l.length : Int)) (fun i s => s.2 = (i : Int) ∧ s.1.length = l.length ∧ (∀ j, j < i → s.1[j]? = (l.map spec_Clamp16)[j]?) ∧ ∀ j, i ≤ j → s.1[j]? = l[j]?) (fun t => t = l.map spec_Clamp16) l.length (by
    rintro i ⟨a, c⟩ hi ⟨hc, ha, hd, hu⟩
    simp only at hc ha hd hu
    subst hc
    simp only [impl_ReferenceOf_s5, decide_eq_true_eq]
    rcases Nat.lt_or_ge i l.length with h | h
    · left
      obtain ⟨x, hx, _⟩ := get_lt h
      have hxa : a[i]? = some x := by rw [hu i (Nat.le_refl _)]; exact hx
      rw [if_pos (by omega), getI_nat, hxa, Int.toNat_natCast, hxa, w64 (by omega)]
      simp only [Option.bind_some, clamp_same]
      refine ⟨h, _, rfl, by simp, by simp [ha], fun j hj => ?_, fun j hj => ?_⟩
      · simp only []
        rcases Nat.lt_or_ge j i with hji | hji
        · rw [List.getElem?_set_ne (by omega)]; exact hd j hji
        · obtain rfl : j = i := by omega
          rw [List.getElem?_set_self (by omega), List.getElem?_map, hx]; rfl
      · simp only []
        rw [List.getElem?_set_ne (by omega)]; exact hu j (by omega)
    · right
      rw [if_neg (by omega)]
      exact ⟨_, rfl, list_ext (by simp [ha]) fun j hj => hd j (by simp at hj; omega)⟩) (s := (l, 0)) ⟨rfl, rfl, fun j hj => by omega, fun _ _ => rfl⟩
  exact h1
theorem newSynth_same {n : Int} {h : Nat} (hs : SizeOk n h) : ∃ s, spec_l7NewSynth n = some s ∧ impl_NewSynth n = some ⟨0, s⟩ ∧ SynOk n h s := by
  have hz := ok_size hs
  obtain ⟨h1, h2⟩ := hs
  have n2 : IntKind.i64.wrap (n.tdiv 2) = (h : Int) := by rw [Int.tdiv_eq_ediv_of_nonneg (by omega), w64 (by omega)]; omega
  have zb : ∀ B : Int, 0 ≤ B → InB B (List.replicate h 0) := fun B hB x hx => by rw [List.eq_of_mem_replicate hx]; omega
  refine ⟨⟨n, List.replicate h 0, List.replicate h 0⟩, ?_, ?_, ⟨rfl, by simp, by simp, zb _ (by omega), zb _ (by omega)⟩⟩
  · unfold spec_l7NewSynth spec_l1Zeros
    rw [n2, if_pos (okMake_8 (by omega) (by omega))]
    simp
  · unfold impl_NewSynth impl_NewSynth_u1
    rw [size_same, hz, n2, if_pos (okMake_8 (by omega) (by omega))]
    simp
theorem ref_same {k : Nat} {n : Int} {fs : List SFrame} (hk : 5 ≤ k) (hl : (fs.length : Int) ≤ 1048576) (hw : ∀ x ∈ fs, FrLen x) :
    ∃ r, spec_ReferenceOf k n fs = some r ∧ impl_ReferenceOf k n fs = some r ∧ r.Frames.length ≤ 40 ∧ ∀ x ∈ r.Frames, x.length ≤ 16 := by
  have hf : ∀ a b : Int, impl_first [a, b] = some (firstL [a, b]) := fun a b => impl_first_eq (by simp [maxI])
  unfold spec_ReferenceOf impl_ReferenceOf
  simp only [hf, size_same, impl_codeIf_eq, Option.bind_some]
  by_cases h1 : (fs.length : Int) > 40
  · rw [decide_eq_true h1]
    exact ⟨_, rfl, rfl, by simp, by simp⟩
  rw [decide_eq_false h1]
  simp only [Bool.false_eq_true, if_false]
  rcases (size_cases (n := n)).symm with h2 | h2
  · rw [h2]; exact ⟨_, rfl, rfl, by simp, by simp⟩
  rw [h2]
  have e0 : firstL [0, 0] = 0 := rfl
  simp only [e0, bne_self_eq_false, Bool.false_eq_true, if_false]
  obtain ⟨h, hs⟩ := size_ok h2
  obtain ⟨t, s1, s2, s3⟩ := loop_same (step1 := spec_ReferenceOf_s1 k n fs) (step2 := impl_ReferenceOf_s1 k n fs (fs.length : Int)) (fun i s => s = (i : Int) ∧ ∀ j x, j < i → fs[j]? = some x → impl_FrameFault x = some 0 ∧ FrOk x ∧ x.Size = n)
      (fun t => (∃ c, t = .inr c) ∨ (t = .inl () ∧ ∀ x ∈ fs, impl_FrameFault x = some 0 ∧ FrOk x ∧ x.Size = n)) fs.length (by
    rintro i s hi ⟨rfl, hj⟩
    rcases Nat.lt_or_ge i fs.length with hq | hq
    · obtain ⟨x, hx, mx⟩ := get_lt hq
      obtain ⟨c, p1, p2, p3⟩ := frame_same (hw x mx)
      have r1 : spec_ReferenceOf_s1 k n fs (i : Int) = some (if c ≠ 0 then .inr (.inr c) else if x.Size ≠ n then .inr (.inr 1) else .inl ((i : Int) + 1)) := by
        simp only [spec_ReferenceOf_s1, decide_eq_true_eq]
        rw [if_pos (by omega), w64 (by omega)]
        simp only [getI_nat, hx, Option.bind_some, p1]
        by_cases q1 : c = 0 <;> by_cases q2 : x.Size = n <;> simp [q1, q2]
      have r2 : impl_ReferenceOf_s1 k n fs (fs.length : Int) (i : Int) = some (if c ≠ 0 then .inr (.inr c) else if x.Size ≠ n then .inr (.inr 1) else .inl ((i : Int) + 1)) := by
        simp only [impl_ReferenceOf_s1, decide_eq_true_eq]
        rw [if_pos (by omega), w64 (by omega)]
        simp only [getI_nat, hx, Option.bind_some, p2, hf, impl_codeIf_eq, firstL]
        by_cases q1 : c = 0 <;> by_cases q2 : x.Size = n <;> simp [q1, q2]
      rw [r1, r2]
      refine ⟨rfl, ?_⟩
      by_cases q1 : c = 0
      · by_cases q2 : x.Size = n
        · rw [if_neg (by simp [q1]), if_neg (by simp [q2])]
          refine .inl ⟨hq, _, rfl, by simp, fun j y hj' hy => ?_⟩
          rcases Nat.lt_or_ge j i with hji | hji
          · exact hj j y hji hy
          · obtain rfl : j = i := by omega
            rw [hx] at hy; obtain rfl := Option.some.inj hy
            exact ⟨by rw [p2, q1], p3 q1, q2⟩
        · rw [if_neg (by simp [q1]), if_pos q2]
          exact .inr ⟨_, rfl, .inl ⟨1, rfl⟩⟩
      · rw [if_pos q1]
        exact .inr ⟨_, rfl, .inl ⟨c, rfl⟩⟩
    · have r1 : spec_ReferenceOf_s1 k n fs (i : Int) = some (.inr (.inl ())) := by
        simp only [spec_ReferenceOf_s1, decide_eq_true_eq]
        rw [if_neg (by omega)]
      have r2 : impl_ReferenceOf_s1 k n fs (fs.length : Int) (i : Int) = some (.inr (.inl ())) := by
        simp only [impl_ReferenceOf_s1, decide_eq_true_eq]
        rw [if_neg (by omega)]
      rw [r1, r2]
      refine ⟨rfl, .inr ⟨_, rfl, .inr ⟨rfl, fun x hx => ?_⟩⟩⟩
      obtain ⟨j, hj'⟩ := List.getElem?_of_mem hx
      exact hj j x (by have := (List.getElem?_eq_some_iff.1 hj').1; omega) hj') (s := 0) ⟨rfl, fun j x hj => by omega⟩
  rw [s1, s2]
  rcases s3 with ⟨c, rfl⟩ | ⟨rfl, hp⟩
  · exact ⟨_, rfl, rfl, by simp, by simp⟩
  simp only [Option.bind_some, Sum.elim_inl]
  obtain ⟨s, n1, n2, n3⟩ := newSynth_same hs
  rw [n1, n2]
  simp only [Option.bind_some]
  obtain ⟨t, u1, u2, u3, u4⟩ := loop_sim (step1 := spec_ReferenceOf_s2 k fs) (step2 := impl_ReferenceOf_s6 k fs (fs.length : Int)) (fun t => Sum.inl t) (fun i s => s.2.2.2.2 = (i : Int) ∧ SynOk n h ⟨s.1, s.2.1, s.2.2.1⟩ ∧ s.2.2.2.1.length = i ∧ ∀ x ∈ s.2.2.2.1, x.length ≤ 16) (fun t => t.length ≤ 40 ∧ ∀ x ∈ t, x.length ≤ 16) fs.length (by
    rintro i ⟨sz, hd, tl, fr, c⟩ hi ⟨hc, ho, hlen, hx16⟩
    simp only at hc ho hlen hx16
    subst hc
    rcases Nat.lt_or_ge i fs.length with hq | hq
    · left
      obtain ⟨x, hx, mx⟩ := get_lt hq
      obtain ⟨p1, p2, p3⟩ := hp x mx
      obtain ⟨c, h', hs', c1, c2, c3, c4⟩ := central_same (k := k) (by omega) p1 p2
      obtain rfl : h' = h := by have := hs'.1; have := hs.1; omega
      obtain ⟨s', f, f1, f2, f3, f4⟩ := play_same (k := k) hk hs ho c3 c4
      have hh := hs.2
      have r1 : spec_ReferenceOf_s2 k fs (sz, hd, tl, fr, (i : Int)) = some (.inl (s'.Size, s'.Head, s'.Tail, fr ++ [f.map spec_Clamp16], (i : Int) + 1)) := by
        simp only [spec_ReferenceOf_s2, decide_eq_true_eq]
        rw [if_pos (by omega), getI_nat, hx]
        simp only [Option.bind_some, c1, f1, clamped_spec (l := f) (by omega)]
        rw [if_pos (okApp_of (by simp; omega)), w64 (by omega)]
      have r2 : impl_ReferenceOf_s6 k fs (fs.length : Int) (sz, hd, tl, fr, (i : Int)) = some (.inl (s'.Size, s'.Head, s'.Tail, fr ++ [f.map spec_Clamp16], (i : Int) + 1)) := by
        simp only [impl_ReferenceOf_s6, impl_ReferenceOf_u4, decide_eq_true_eq]
        rw [if_pos (by omega), getI_nat, hx]
        simp only [Option.bind_some, c2, f2, bne_self_eq_false, Bool.false_eq_true, if_false, clamped_impl (l := f) (by omega)]
        rw [if_pos (okApp_of (by simp; omega)), w64 (by omega)]
      refine ⟨hq, _, r1, r2, by simp, f3, by simp [hlen], fun y hy => ?_⟩
      rcases List.mem_append.1 hy with hy | hy
      · exact hx16 y hy
      · rw [List.mem_singleton] at hy; subst hy; simp; omega
    · right
      have r1 : spec_ReferenceOf_s2 k fs (sz, hd, tl, fr, (i : Int)) = some (.inr fr) := by
        simp only [spec_ReferenceOf_s2, decide_eq_true_eq]
        rw [if_neg (by omega)]
      have r2 : impl_ReferenceOf_s6 k fs (fs.length : Int) (sz, hd, tl, fr, (i : Int)) = some (.inr (.inl fr)) := by
        simp only [impl_ReferenceOf_s6, decide_eq_true_eq]
        rw [if_neg (by omega)]
      exact ⟨fr, r1, r2, by omega, hx16⟩) (s := (s.Size, s.Head, s.Tail, [], 0)) ⟨rfl, n3, rfl, by simp⟩
  rw [u1, u2]
  exact ⟨_, rfl, rfl, u3, u4⟩
theorem markFrameS_eq {l : List SFrame} (hl : (l.length : Int) ≤ 1048576) (hw : ∀ x ∈ l, FrLen x) : ∃ k' l', laws_markFrameS l 1 = some (k', l') ∧ 0 ≤ k' ∧ l'.length = l.length := by
  unfold laws_markFrameS
  obtain ⟨t, h1, h2, h3⟩ := loop_rule (step := laws_markFrameS_s1) (fun i s => s.1.length = l.length ∧ (∀ x ∈ s.1, FrLen x) ∧ 1 ≤ s.2.1 ∧ s.2.1 ≤ 1 + i * 2199023255552 ∧ s.2.2 = (i : Int)) (fun t => 0 ≤ t.2 ∧ t.1.length = l.length) l.length (by
    rintro i ⟨a, m, n⟩ hi ⟨ha, hI, hm1, hm2, hn⟩
    simp only at ha hI hm1 hm2 hn
    subst hn
    rcases Nat.lt_or_ge i l.length with hh | hh
    · left
      have hb : m ≤ 2305843009213693953 := by omega
      obtain ⟨x, hx, mx⟩ := get_lt (l := a) (i := i) (by omega)
      have o := hI x mx
      have ol := o.lows
      have og := o.gains
      have gs : ∀ y : SFrame, (a.set i y)[i]? = some y := fun y => List.getElem?_set_self (by omega)
      obtain ⟨l1, m1, m2, _⟩ := laws_markInt64S_eq (l := x.Lows) (k := m + 1 + 1 + 1 + 1 + 1) (by omega) (by unfold maxI; omega)
      obtain ⟨g1, m3, m4, _⟩ := laws_markInt64S_eq (l := x.Gains) (k := m + 1 + 1 + 1 + 1 + 1 + (x.Lows.length : Int)) (by omega) (by unfold maxI; omega)
      obtain ⟨k', p1, m5, m6, m7, m8, m9, _⟩ := marksSS (l := x.Pulses) (k := m + 1 + 1 + 1 + 1 + 1 + (x.Lows.length : Int) + (x.Gains.length : Int)) (by omega) o.pulses o.pulse
      simp only [laws_markFrameS_s1, decide_eq_true_eq]
      rw [if_pos (by omega), w64 (n := m + 1) (by omega), w64 (n := m + 1 + 1) (by omega), w64 (n := m + 1 + 1 + 1) (by omega), w64 (n := m + 1 + 1 + 1 + 1) (by omega), w64 (n := m + 1 + 1 + 1 + 1 + 1) (by omega), w64 (n := (i : Int) + 1) (by omega)]
      simp only [getI_nat, Int.toNat_natCast, List.set_set, gs, hx, Option.bind_some, m1, m2, m3, m4, m5, m8, if_true]
      refine ⟨hh, _, rfl, by simp [ha], fun y hy => ?_, by simp only []; omega, by simp only []; omega, by simp⟩
      rcases List.mem_or_eq_of_mem_set hy with e | e
      · exact hI y e
      · rw [e]; exact ⟨by simp only []; omega, by simp only []; omega, by simp only []; have := o.pulses; omega, m9⟩
    · right
      simp only [laws_markFrameS_s1, decide_eq_true_eq]
      rw [if_neg (by omega)]
      exact ⟨_, rfl, by simp only []; omega, ha⟩) (s := (l, 1, 0)) ⟨rfl, hw, by simp, by simp, rfl⟩
  rw [h1]
  exact ⟨_, _, rfl, h2, h3⟩
--REST0
theorem pure (p0 : Int) (p : List SFrame) (h0 : WfI .i64 p0) (h : (p.length : Int) ≤ maxI ∧ ∀ x ∈ p, x.Wf) : laws_FnExactReferenceOf 64 p0 p = some true := by
  obtain ⟨hl, hw⟩ := h
  obtain ⟨r, s1, s2⟩ := szFS_spec (n := 1048576) (by omega) hl hw
  unfold laws_FnExactReferenceOf laws_FnExactReferenceOf_u1
  simp only [s1, Option.bind_some, decide_eq_true_eq]
  rcases s2 with s2 | ⟨_, _, s3, s4⟩
  · rw [if_pos s2]
  rw [if_neg (by omega)]
  have hto := toFrameS_eq s3 s4
  obtain ⟨g, g1, g2, g3, g4⟩ := ref_same (k := 64) (n := p0) (fs := p) (by omega) s3 s4
  have gm : (g.Frames.length : Int) ≤ 1048576 := by omega
  have gx : ∀ x ∈ g.Frames, (x.length : Int) ≤ 1048576 := fun x hx => by have := g4 x hx; omega
  have heq : laws_eqFramesResult ⟨g.Code, g.Frames⟩ ⟨g.Code, g.Frames⟩ = some true := by
    unfold laws_eqFramesResult
    simp [eqInt64SS_self gm gx]
  obtain ⟨k, p', k1, k2, k3⟩ := markFrameS_eq s3 s4
  obtain ⟨k', l', m1, m2, m3, m4, m5, m6⟩ := marksSS (l := g.Frames) (k := 1) (by omega) gm gx
  have hm : laws_markFramesResult_o ⟨g.Code, g.Frames⟩ 1 = some (k', SFramesResult.mk g.Code l') := by
    unfold laws_markFramesResult_o
    simp [m1, m4]
  have hh : laws_heldFramesResult ⟨g.Code, l'⟩ 1 = some k' := by
    unfold laws_heldFramesResult
    simp only [m6, Option.bind_some, decide_eq_true_eq]
    rw [if_neg (by omega)]
  have hk : ¬ (k < 0) := by omega
  have hn : ¬ (k' < 0) := by omega
  unfold laws_FnExactReferenceOf_u2 laws_FnExactReferenceOf_u3 laws_FnExactReferenceOf_u4 laws_FnExactReferenceOf_u5 laws_FnExactReferenceOf_u6 laws_FnExactReferenceOf_u15 laws_FnExactReferenceOf_u7 laws_FnExactReferenceOf_u8 laws_FnExactReferenceOf_u9 laws_FnExactReferenceOf_u10 laws_FnExactReferenceOf_u14 laws_FnExactReferenceOf_u11 laws_FnExactReferenceOf_u12 laws_FnExactReferenceOf_u13
  simp only [hto, g1, g2, heq, eqFrameS_self s3 s4, k1, k3, hm, hh, hk, hn, m4, Option.bind_some, Bool.not_true, Bool.false_eq_true, if_false, if_true, decide_eq_true_eq, bne_self_eq_false]
end FnExactReferenceOf
end Go.Proofs.YtpioljlgmhehhaaGreat.Wm
