/- What FnExactSessionFault comes to on plain values: true. -/
import Derived.Test.YtclhghlpokdiiaaGreatFnCFnExactSessionFault
set_option linter.unusedSimpArgs false
set_option linter.unusedVariables false
set_option maxRecDepth 100000
namespace Go.Proofs.YtclhghlpokdiiaaGreat.Wm
open Go
namespace FnExactSessionFault
theorem spec_l1In_eq {a b c : Int} : spec_l1In a b c = decide (b ≤ a ∧ a ≤ c) := by
  simp only [spec_l1In, spec_l1In_u1, decide_eq_true_eq]
  by_cases h1 : b ≤ a <;> by_cases h2 : a ≤ c <;> simp [h1, h2]
theorem impl_inRange_eq {a b c : Int} : impl_inRange a b c = decide (b ≤ a ∧ a ≤ c) := by
  simp only [impl_inRange, impl_inRange_u1, decide_eq_true_eq]
  by_cases h1 : b ≤ a <;> by_cases h2 : a ≤ c <;> simp [h1, h2]
theorem spec_l1All_eq {l : List Int} {a b : Int} (hl : (l.length : Int) ≤ maxI) : spec_l1All l a b = some (decide (∀ x ∈ l, a ≤ x ∧ x ≤ b)) := by
  unfold maxI at hl
  unfold spec_l1All
  obtain ⟨t, h1, h2⟩ := loop_rule (step := spec_l1All_s1 l a b) (fun i s => s = (i : Int) ∧ ∀ j x, j < i → l[j]? = some x → a ≤ x ∧ x ≤ b)
      (fun t => (t = .inl () ∧ ∀ x ∈ l, a ≤ x ∧ x ≤ b) ∨ (t = .inr () ∧ ∃ x ∈ l, ¬ (a ≤ x ∧ x ≤ b))) l.length (by
    rintro i s hi ⟨rfl, hj⟩
    simp only [spec_l1All_s1, decide_eq_true_eq]
    rcases Nat.lt_or_ge i l.length with h | h
    · obtain ⟨x, hx, hm⟩ := get_lt h
      rw [if_pos (by omega), getI_nat, hx, w64 (by omega)]
      simp only [Option.bind_some, spec_l1In_eq, decide_eq_true_eq]
      by_cases hp : a ≤ x ∧ x ≤ b
      · left
        rw [if_pos hp]
        refine ⟨h, _, rfl, by simp, fun j y hj' hy => ?_⟩
        rcases Nat.lt_or_ge j i with hji | hji
        · exact hj j y hji hy
        · obtain rfl : j = i := by omega
          rw [hx] at hy; obtain rfl := Option.some.inj hy; exact hp
      · right
        rw [if_neg hp]
        exact ⟨_, rfl, .inr ⟨rfl, x, hm, hp⟩⟩
    · right
      rw [if_neg (by omega)]
      refine ⟨_, rfl, .inl ⟨rfl, fun x hx => ?_⟩⟩
      obtain ⟨j, hj'⟩ := List.getElem?_of_mem hx
      exact hj j x (by have := (List.getElem?_eq_some_iff.1 hj').1; omega) hj') (s := 0) ⟨rfl, fun j x hj => by omega⟩
  rw [h1]
  rcases h2 with ⟨rfl, h⟩ | ⟨rfl, x, hx, h⟩
  · simp only [Option.bind_some, Sum.elim_inl, Option.some.injEq]; exact (decide_eq_true h).symm
  · simp only [Option.bind_some, Sum.elim_inr, Option.some.injEq]; exact (decide_eq_false fun hh => h (hh x hx)).symm
def firstL : List Int → Int
  | [] => 0
  | x :: l => if x ≠ 0 then x else firstL l
theorem firstL_skip : ∀ {i : Nat} {l : List Int}, (∀ j x, j < i → l[j]? = some x → x = 0) → firstL l = firstL (l.drop i)
  | 0, l, h => by simp
  | i + 1, [], h => by simp
  | i + 1, x :: l, h => by
    have := h 0 x (by omega) rfl
    subst this
    simp only [firstL, ne_eq, not_true, if_false, List.drop_succ_cons]
    exact firstL_skip fun j x hj hx => h (j + 1) x (by omega) (by simpa using hx)
theorem impl_first_eq {l : List Int} (hl : (l.length : Int) ≤ maxI) : impl_first l = some (firstL l) := by
  unfold maxI at hl
  unfold impl_first
  obtain ⟨t, h1, h2⟩ := loop_rule (step := impl_first_s1 l (l.length : Int)) (fun i s => s = (i : Int) ∧ ∀ j x, j < i → l[j]? = some x → x = 0)
      (fun t => (t = .inl () ∧ firstL l = 0) ∨ (t = .inr (firstL l))) l.length (by
    rintro i s hi ⟨rfl, hj⟩
    simp only [impl_first_s1, decide_eq_true_eq]
    rcases Nat.lt_or_ge i l.length with h | h
    · obtain ⟨x, hx, hm⟩ := get_lt h
      rw [if_pos (by omega), getI_nat, hx, w64 (by omega)]
      simp only [Option.bind_some, bne_iff_ne, ne_eq]
      by_cases hp : x = 0
      · left
        rw [if_neg (by simp [hp])]
        refine ⟨h, _, rfl, by simp, fun j y hj' hy => ?_⟩
        rcases Nat.lt_or_ge j i with hji | hji
        · exact hj j y hji hy
        · obtain rfl : j = i := by omega
          rw [hx] at hy; obtain rfl := Option.some.inj hy; exact hp
      · right
        rw [if_pos hp]
        refine ⟨_, rfl, .inr ?_⟩
        rw [firstL_skip hj, List.drop_eq_getElem_cons h, firstL]
        have : l[i] = x := by rw [List.getElem?_eq_getElem h] at hx; exact Option.some.inj hx
        rw [this, if_pos hp]
    · right
      rw [if_neg (by omega)]
      refine ⟨_, rfl, .inl ⟨rfl, ?_⟩⟩
      rw [firstL_skip hj, List.drop_eq_nil_of_le h]; rfl) (s := 0) ⟨rfl, fun j x hj => by omega⟩
  rw [h1]
  rcases h2 with ⟨rfl, h⟩ | rfl
  · simp [h]
  · simp
theorem impl_codeIf_eq {b : Bool} {c : Int} : impl_codeIf b c = if b = true then c else 0 := rfl
theorem laws_toInt64S_eq {l : List Int} (hl : (l.length : Int) ≤ 35184372088832) : laws_toInt64S l = some l := by
  unfold laws_toInt64S
  rw [if_pos (okMake_8 (by omega) hl), Int.toNat_natCast]
  obtain ⟨t, h1, rfl⟩ := loop_rule (step := laws_toInt64S_s1 l) (fun i s => s.2 = i ∧ s.1.length = l.length ∧ ∀ j, j < i → s.1[j]? = l[j]?) (fun t => t = l) l.length (by
    rintro i ⟨a, k⟩ hi ⟨hk, ha, hj⟩
    simp only at hk ha hj
    subst hk
    simp only [laws_toInt64S_s1, decide_eq_true_eq]
    rcases Nat.lt_or_ge i l.length with h | h
    · left
      obtain ⟨x, hx, _⟩ := get_lt h
      obtain ⟨y, hy, _⟩ := get_lt (l := a) (i := i) (by omega)
      rw [if_pos (by omega), getI_nat, hx, getI_nat, hy, Int.toNat_natCast, hy, w64 (by omega)]
      refine ⟨h, _, rfl, by simp, by simp [ha], fun j hj' => ?_⟩
      simp only [List.getElem?_set]
      split
      · rename_i e; subst e; rw [if_pos (by omega), hx]
      · exact hj j (by omega)
    · right
      rw [if_neg (by omega)]
      exact ⟨a, rfl, list_ext ha fun j hj' => hj j (by omega)⟩) (s := (List.replicate l.length 0, 0)) ⟨rfl, by simp, fun j hj => by omega⟩
  rw [h1]; rfl
theorem laws_eqInt64S_self {l : List Int} (hl : (l.length : Int) ≤ maxI) : laws_eqInt64S l l = some true := by
  unfold maxI at hl
  unfold laws_eqInt64S
  rw [if_neg (by simp)]
  obtain ⟨t, h1, rfl⟩ := loop_rule (step := laws_eqInt64S_s1 l l) (fun i s => s = (i : Int)) (fun t => t = .inl ()) l.length (by
    rintro i s hi rfl
    simp only [laws_eqInt64S_s1, decide_eq_true_eq]
    rcases Nat.lt_or_ge i l.length with h | h
    · left
      obtain ⟨x, hx, _⟩ := get_lt h
      rw [if_pos (by omega), getI_nat, hx, w64 (by omega)]
      simp only [Option.bind_some, bne_self_eq_false, Bool.false_eq_true, if_false]
      exact ⟨h, _, rfl, by simp⟩
    · right
      rw [if_neg (by omega)]
      exact ⟨_, rfl, rfl⟩) (s := 0) rfl
  rw [h1]; rfl
theorem l1All_all {l : List Int} {a b : Int} (hl : (l.length : Int) ≤ maxI) : spec_l1All l a b = some (l.all fun x => decide (a ≤ x ∧ x ≤ b)) := by
  rw [spec_l1All_eq hl]
  congr 1
  rw [Bool.eq_iff_iff]
  simp
theorem size_same {n : Int} : impl_SizeFault n = spec_SizeFault n := rfl
theorem size_cases {n : Int} : spec_SizeFault n = 0 ∨ spec_SizeFault n = 3 := by
  unfold spec_SizeFault
  simp only []
  split
  · exact .inr rfl
  · exact .inl rfl
theorem allWithin_eq {l : List Int} {k : Int} (hk : 0 ≤ k ∧ k ≤ 1000000000000) (hl : (l.length : Int) ≤ maxI) : impl_allWithin l k = some (l.all fun x => decide (-k ≤ x ∧ x ≤ k)) := by
  unfold impl_allWithin slices_ContainsFunc_int64_impl_allWithin_1 slices_IndexFunc_int64_impl_allWithin_1
  obtain ⟨r, h1, h2⟩ := find_loop (l := l) (fun x => impl_allWithin_1 x k) (step := slices_IndexFunc_int64_impl_allWithin_1_s1 l k (l.length : Int)) (fun i x hx => by
      have hi : i < l.length := (List.getElem?_eq_some_iff.1 hx).1
      simp only [slices_IndexFunc_int64_impl_allWithin_1_s1, decide_eq_true_eq]
      rw [if_pos (by omega), getI_nat, hx]
      simp only [Option.bind_some]
      split <;> rfl) (by
      simp only [slices_IndexFunc_int64_impl_allWithin_1_s1, decide_eq_true_eq]
      rw [if_neg (by omega)]) hl
  rw [h1]
  simp only [Option.bind_some, h2, List.not_any_eq_all_not]
  congr 2
  funext x
  simp only [impl_allWithin_1, impl_within, impl_inRange_eq, Bool.not_not]
  rw [w64 (by omega)]
  simp
theorem areSamples_eq {l : List Int} (hl : (l.length : Int) ≤ maxI) : impl_areSamples l = some (l.all fun x => decide (-32768 ≤ x ∧ x ≤ 32767)) := by
  unfold impl_areSamples slices_ContainsFunc_int64_impl_areSamples_1 slices_IndexFunc_int64_impl_areSamples_1
  obtain ⟨r, h1, h2⟩ := find_loop (l := l) (fun x => impl_areSamples_1 x) (step := slices_IndexFunc_int64_impl_areSamples_1_s1 l (l.length : Int)) (fun i x hx => by
      have hi : i < l.length := (List.getElem?_eq_some_iff.1 hx).1
      simp only [slices_IndexFunc_int64_impl_areSamples_1_s1, decide_eq_true_eq]
      rw [if_pos (by omega), getI_nat, hx]
      simp only [Option.bind_some]
      split <;> rfl) (by
      simp only [slices_IndexFunc_int64_impl_areSamples_1_s1, decide_eq_true_eq]
      rw [if_neg (by omega)]) hl
  rw [h1]
  simp only [Option.bind_some, h2, List.not_any_eq_all_not]
  congr 2
  funext x
  simp only [impl_areSamples_1, impl_isSample, impl_inRange_eq, Bool.not_not]
theorem lap_same {s : SLap} (h1 : (s.Half.length : Int) ≤ maxI) (h2 : (s.Rest.length : Int) ≤ maxI) : ∃ c, spec_LapFault s = some c ∧ impl_LapFault s = some c := by
  unfold spec_LapFault impl_LapFault
  simp only [spec_LapFault_u1, spec_LapFault_u2, impl_LapFault_u1, allWithin_eq (k := 65536) (by omega) h1, areSamples_eq h2, l1All_all h1, l1All_all h2, size_same, impl_halfOf, impl_codeIf_eq, Option.bind_some]
  generalize (s.Half.all fun x => decide (-65536 ≤ x ∧ x ≤ 65536)) = A
  generalize (s.Rest.all fun x => decide (-32768 ≤ x ∧ x ≤ 32767)) = B
  generalize IntKind.i64.wrap (s.Size.tdiv 2) = w
  have ha : ∀ a b c : Int, impl_first [a, b, c] = some (firstL [a, b, c]) := fun a b c => impl_first_eq (by simp [maxI])
  simp only [ha, Option.bind_some, bne]
  generalize ((s.Half.length : Int) == w) = b1
  generalize ((s.Rest.length : Int) == w) = b2
  rcases size_cases (n := s.Size) with hz | hz <;> rw [hz] <;> cases A <;> cases B <;> cases b1 <;> cases b2 <;> exact ⟨_, rfl, rfl⟩
theorem anchorGains_eq {l : List Int} (hl : (l.length : Int) ≤ maxI) : slices_ContainsFunc_int64_impl_AnchorFault_1 l = some (!l.all fun x => decide (0 ≤ x ∧ x ≤ 65535)) := by
  unfold slices_ContainsFunc_int64_impl_AnchorFault_1 slices_IndexFunc_int64_impl_AnchorFault_1
  obtain ⟨r, h1, h2⟩ := find_loop (l := l) (fun x => impl_AnchorFault_1 x) (step := slices_IndexFunc_int64_impl_AnchorFault_1_s1 l (l.length : Int)) (fun i x hx => by
      have hi : i < l.length := (List.getElem?_eq_some_iff.1 hx).1
      simp only [slices_IndexFunc_int64_impl_AnchorFault_1_s1, decide_eq_true_eq]
      rw [if_pos (by omega), getI_nat, hx]
      simp only [Option.bind_some]
      split <;> rfl) (by
      simp only [slices_IndexFunc_int64_impl_AnchorFault_1_s1, decide_eq_true_eq]
      rw [if_neg (by omega)]) hl
  rw [h1]
  simp only [Option.bind_some, h2, List.not_all_eq_any_not]
  congr 2
  funext x
  simp only [impl_AnchorFault_1, impl_inRange_eq]
theorem anchor_same {s : SAnchor} (h1 : (s.Gains.length : Int) ≤ maxI) : ∃ c, spec_AnchorFault s = some c ∧ impl_AnchorFault s = some c := by
  unfold spec_AnchorFault impl_AnchorFault
  have ha : ∀ a b c : Int, impl_first [a, b, c] = some (firstL [a, b, c]) := fun a b c => impl_first_eq (by simp [maxI])
  have hb : ((if decide ((s.Gains.length : Int) < 1) = true then true else decide ((s.Gains.length : Int) > 2)) : Bool) = !decide (1 ≤ (s.Gains.length : Int) ∧ (s.Gains.length : Int) ≤ 2) := by
    by_cases q1 : (s.Gains.length : Int) < 1
    · rw [if_pos (decide_eq_true q1), decide_eq_false (by omega)]; rfl
    · rw [if_neg (by simpa using q1)]
      by_cases q2 : (s.Gains.length : Int) > 2
      · rw [decide_eq_true q2, decide_eq_false (by omega)]; rfl
      · rw [decide_eq_false q2, decide_eq_true (by omega)]; rfl
  simp only [spec_AnchorFault_u1, spec_AnchorFault_u2, spec_AnchorFault_u3, impl_AnchorFault_u1, impl_AnchorFault_u2, anchorGains_eq h1, l1All_all h1, impl_isNumber, impl_isRung, spec_l14Number, spec_l9Rung, spec_l1In_eq, impl_inRange_eq, impl_codeIf_eq, Option.bind_some, hb, ha]
  generalize (s.Gains.all fun x => decide (0 ≤ x ∧ x ≤ 65535)) = A
  generalize decide (1 ≤ (s.Gains.length : Int) ∧ (s.Gains.length : Int) ≤ 2) = b1
  generalize decide (0 ≤ s.Number ∧ s.Number ≤ 9999) = b2
  generalize decide (0 ≤ s.Rung ∧ s.Rung ≤ 47) = b3
  cases s.Known
  · by_cases b4 : 0 < s.Gains.length <;> by_cases b5 : s.Number = 0 <;> by_cases b6 : s.Rung = 0 <;> simp [b4, b5, b6]
  · cases A <;> cases b1 <;> cases b2 <;> cases b3 <;> exact ⟨_, rfl, rfl⟩
theorem eq_any {l m : List Int} {step : Int → Option (Int ⊕ (Unit ⊕ Unit))} (h1 : ∀ (i : Nat) (x y : Int), l[i]? = some x → m[i]? = some y → step i = some (if (x == y) = true then .inl (IntKind.i64.wrap ((i : Int) + 1)) else .inr (.inr ())))
    (h2 : step (l.length : Int) = some (.inr (.inl ()))) (hl : (l.length : Int) ≤ maxI) :
    (if ((l.length : Int) != (m.length : Int)) = true then some false else (loopO step 0).bind fun t => (Sum.elim (fun _ => some true) (fun _ => some false)) t) = some (decide (l = m)) := by
  by_cases hlen : l.length = m.length
  · rw [if_neg (by simp [hlen]), same_loop (fun x y => x == y) hlen h1 h2 hl, allSame_eq hlen]
  · rw [if_pos (by simp; omega), decide_eq_false (fun e => hlen (by rw [e]))]
theorem eqByteS_eq {l m : List Int} (hl : (l.length : Int) ≤ maxI) : laws_eqByteS l m = some (decide (l = m)) := by
  unfold laws_eqByteS
  refine eq_any (fun i x y hx hy => ?_) ?_ hl
  · have hi : i < l.length := (List.getElem?_eq_some_iff.1 hx).1
    simp only [laws_eqByteS_s1, decide_eq_true_eq]
    rw [if_pos (by omega), getI_nat, hx, getI_nat, hy]
    by_cases e : x = y <;> simp [e]
  · simp only [laws_eqByteS_s1, decide_eq_true_eq]; rw [if_neg (by omega)]
def qHeld (x y : SHeld) : Bool := (x.Number == y.Number) && ((x.Side == y.Side) && decide (x.Data = y.Data))
theorem eqHeld_eq {x y : SHeld} (h : (x.Data.length : Int) ≤ maxI) : laws_eqHeld x y = some (qHeld x y) := by
  unfold laws_eqHeld qHeld
  simp only [eqByteS_eq h, Option.bind_some]
  by_cases h1 : x.Number = y.Number <;> by_cases h2 : x.Side = y.Side <;> by_cases h3 : x.Data = y.Data <;> simp [h1, h2, h3]
theorem qHeld_self (x : SHeld) : qHeld x x = true := by simp [qHeld]
theorem eqHeldS_self {l : List SHeld} (hl : (l.length : Int) ≤ maxI) (hw : ∀ x ∈ l, (x.Data.length : Int) ≤ maxI) : laws_eqHeldS l l = some true := by
  unfold laws_eqHeldS
  rw [if_neg (by simp)]
  have e := same_loop qHeld (l := l) (m := l) (step := laws_eqHeldS_s1 l l) rfl (fun i x y hx hy => by
    have hi : i < l.length := (List.getElem?_eq_some_iff.1 hx).1
    have hxy : x = y := by rw [hx] at hy; exact Option.some.inj hy
    subst hxy
    simp only [laws_eqHeldS_s1, decide_eq_true_eq]
    rw [if_pos (by omega), getI_nat, hx]
    simp only [Option.bind_some, eqHeld_eq (hw x (List.mem_of_getElem? hx))]
    cases qHeld x x <;> rfl) (by simp only [laws_eqHeldS_s1, decide_eq_true_eq]; rw [if_neg (by omega)]) hl
  rw [e, allSame_self fun x _ => qHeld_self x]
theorem laws_toByteS_eq {l : List Int} (hl : (l.length : Int) ≤ 1048576) : laws_toByteS l = some l := by
  unfold laws_toByteS
  rw [if_pos (okMake_of (by omega) (by simp; omega) (by omega)), Int.toNat_natCast, copy_loop (fun a i x y hx hy ha => ?_) (fun a => ?_) (by unfold maxI; omega)]
  · rfl
  · have hi : i < l.length := (List.getElem?_eq_some_iff.1 hx).1
    simp only [laws_toByteS_s1, decide_eq_true_eq]
    rw [if_pos (by omega), getI_nat, hx, getI_nat, hy, Int.toNat_natCast, hy]; rfl
  · simp only [laws_toByteS_s1, decide_eq_true_eq]; rw [if_neg (by omega)]
theorem laws_toHeld_eq {s : SHeld} (hl : (s.Data.length : Int) ≤ 1048576) : laws_toHeld s = some s := by
  unfold laws_toHeld; rw [laws_toByteS_eq hl]; rfl
theorem laws_toHeldS_eq {l : List SHeld} (hl : (l.length : Int) ≤ 1048576) (hw : ∀ x ∈ l, (x.Data.length : Int) ≤ 1048576) : laws_toHeldS l = some l := by
  unfold laws_toHeldS
  rw [if_pos (okMake_of (by omega) (by simp; omega) (by omega)), Int.toNat_natCast, copy_loop (fun a i x y hx hy ha => ?_) (fun a => ?_) (by unfold maxI; omega)]
  · rfl
  · have hi : i < l.length := (List.getElem?_eq_some_iff.1 hx).1
    simp only [laws_toHeldS_s1, decide_eq_true_eq]
    rw [if_pos (by omega), getI_nat, hx]
    simp only [Option.bind_some, laws_toHeld_eq (hw x (List.mem_of_getElem? hx))]
    rw [getI_nat, hy, Int.toNat_natCast, hy]; rfl
  · simp only [laws_toHeldS_s1, decide_eq_true_eq]; rw [if_neg (by omega)]
theorem laws_toAnchor_eq {s : SAnchor} (h1 : (s.Gains.length : Int) ≤ 35184372088832) : laws_toAnchor s = some s := by
  unfold laws_toAnchor
  rw [laws_toInt64S_eq h1]; rfl
theorem laws_toSynth_eq {s : SSynth} (h1 : (s.Head.length : Int) ≤ 35184372088832) (h2 : (s.Tail.length : Int) ≤ 35184372088832) : laws_toSynth s = some s := by
  unfold laws_toSynth
  rw [laws_toInt64S_eq h1, laws_toInt64S_eq h2]; rfl
theorem laws_szInt64S_spec {l : List Int} {n : Int} (hn : n ≤ 1048576) (hl : (l.length : Int) ≤ maxI) (h : 0 ≤ n) : (laws_szInt64S l n < 0 ∨ laws_szInt64S l n = n - l.length) := by
  unfold maxI at hl
  simp only [laws_szInt64S, decide_eq_true_eq]
  rw [w64 (by omega)]
  split
  · left; omega
  · right; rfl
theorem laws_szAnchor_spec {s : SAnchor} {n : Int} (hn : n ≤ 1048576) (h1 : (s.Gains.length : Int) ≤ maxI) (h : 0 ≤ n) : laws_szAnchor s n < 0 ∨ laws_szAnchor s n = n - s.Gains.length := by
  simp only [laws_szAnchor, decide_eq_true_eq]
  rcases laws_szInt64S_spec hn h1 h with e | e
  · left; rw [if_pos e]; omega
  · rw [e]; split
    · left; omega
    · right; rfl
theorem laws_szSynth_spec {s : SSynth} {n : Int} (hn : n ≤ 1048576) (h1 : (s.Head.length : Int) ≤ maxI) (h2 : (s.Tail.length : Int) ≤ maxI) (h : 0 ≤ n) : laws_szSynth s n < 0 ∨ laws_szSynth s n = n - s.Head.length - s.Tail.length := by
  simp only [laws_szSynth, decide_eq_true_eq]
  split
  · left; omega
  · rename_i q
    rcases laws_szInt64S_spec hn h1 h with e | e
    · omega
    · rw [e] at q ⊢
      rcases laws_szInt64S_spec (n := n - s.Head.length) (by omega) h2 (by omega) with e2 | e2
      · left; rw [if_pos e2]; omega
      · rw [e2]; split
        · left; omega
        · right; rfl
theorem laws_szHeld_spec {s : SHeld} {n : Int} (hn : n ≤ 1048576) (hl : (s.Data.length : Int) ≤ maxI) (h : 0 ≤ n) : (laws_szHeld s n < 0 ∨ laws_szHeld s n = n - s.Data.length) := by
  unfold maxI at hl
  simp only [laws_szHeld, laws_szByteS, decide_eq_true_eq]
  rw [w64 (by omega)]
  by_cases q : n - s.Data.length < 0
  · left; simp [q]
  · right; simp [q]
theorem laws_szHeldS_spec {l : List SHeld} {n : Int} (hn : 0 ≤ n ∧ n ≤ 1048576) (hl : (l.length : Int) ≤ maxI) (hw : ∀ x ∈ l, (x.Data.length : Int) ≤ maxI) :
    ∃ r, laws_szHeldS l n = some r ∧ (r < 0 ∨ (r ≤ n ∧ (l.length : Int) ≤ n ∧ ∀ x ∈ l, (x.Data.length : Int) ≤ n)) := by
  unfold maxI at hl
  unfold laws_szHeldS
  rw [w64 (by omega)]
  by_cases h0 : n - l.length < 0
  · rw [if_pos (decide_eq_true h0)]; exact ⟨_, rfl, .inl (by omega)⟩
  · rw [if_neg (by simpa using h0)]
    obtain ⟨t, q1, q2⟩ := loop_rule (step := laws_szHeldS_s1 l) (fun i s => s.2 = (i : Int) ∧ 0 ≤ s.1 ∧ s.1 ≤ n ∧ ∀ j x, j < i → l[j]? = some x → (x.Data.length : Int) ≤ n)
        (fun t => (∃ r, t = .inl r ∧ r ≤ n ∧ ∀ x ∈ l, (x.Data.length : Int) ≤ n) ∨ t = .inr ()) l.length (by
      rintro i ⟨a, k⟩ hi ⟨hk, h1, h2, hj⟩
      simp only at hk h1 h2 hj
      subst hk
      simp only [laws_szHeldS_s1, decide_eq_true_eq]
      rcases Nat.lt_or_ge i l.length with h | h
      · obtain ⟨x, hx, hm⟩ := get_lt h
        rw [if_pos (by omega), getI_nat, hx, w64 (n := (i : Int) + 1) (by omega)]
        simp only [Option.bind_some]
        rcases laws_szHeld_spec (s := x) (n := a) (by omega) (hw x hm) h1 with e | e
        · right; rw [if_pos e]; exact ⟨_, rfl, .inr rfl⟩
        · rw [e]
          by_cases hc : a - x.Data.length < 0
          · right; rw [if_pos hc]; exact ⟨_, rfl, .inr rfl⟩
          · left
            rw [if_neg hc]
            refine ⟨h, _, rfl, by simp, by simp only []; omega, by simp only []; omega, fun j y hj' hy => ?_⟩
            rcases Nat.lt_or_ge j i with hji | hji
            · exact hj j y hji hy
            · obtain rfl : j = i := by omega
              rw [hx] at hy; obtain rfl := Option.some.inj hy; omega
      · right
        rw [if_neg (by omega)]
        refine ⟨_, rfl, .inl ⟨a, rfl, h2, fun x hx => ?_⟩⟩
        obtain ⟨j, hj'⟩ := List.getElem?_of_mem hx
        exact hj j x (by have := (List.getElem?_eq_some_iff.1 hj').1; omega) hj') (s := (n - l.length, 0)) ⟨rfl, by simp only []; omega, by simp only []; omega, fun j x hj => by omega⟩
    rw [q1]
    rcases q2 with ⟨r, rfl, h1, h2⟩ | rfl
    · exact ⟨r, rfl, .inr ⟨h1, by omega, h2⟩⟩
    · exact ⟨-1, rfl, .inl (by omega)⟩
structure RecvOk (s : SReceiver) : Prop where
  held : (s.Held.length : Int) ≤ 1048576
  data : ∀ x ∈ s.Held, (x.Data.length : Int) ≤ 1048576
  a : (s.A.Gains.length : Int) ≤ 1048576
  b : (s.B.Gains.length : Int) ≤ 1048576
  head : (s.Synth.Head.length : Int) ≤ 1048576
  tail : (s.Synth.Tail.length : Int) ≤ 1048576
  last : (s.Last.length : Int) ≤ 1048576
theorem laws_szReceiver_spec {s : SReceiver} {n : Int} (hn : 0 ≤ n ∧ n ≤ 1048576) (w : s.Wf) : ∃ r, laws_szReceiver s n = some r ∧ (r < 0 ∨ (0 ≤ r ∧ r ≤ n ∧ RecvOk s)) := by
  obtain ⟨_, _, ⟨w0, w1⟩, ⟨_, _, _, w3, _⟩, ⟨_, _, _, w4, _⟩, ⟨_, ⟨w5, _⟩, ⟨w6, _⟩⟩, ⟨w7, _⟩, _⟩ := w
  obtain ⟨r, h1, h2⟩ := laws_szHeldS_spec hn w0 (fun x hx => (w1 x hx).2.2.1)
  unfold laws_szReceiver
  rw [h1]
  simp only [Option.bind_some, decide_eq_true_eq]
  by_cases k1 : r < 0
  · rw [if_pos k1]; exact ⟨_, rfl, .inl (by omega)⟩
  · rw [if_neg k1]
    obtain ⟨g1, g2, g3⟩ := h2.resolve_left k1
    rcases laws_szAnchor_spec (s := s.A) (n := r) (by omega) w3 (by omega) with e | e
    · rw [if_pos e]; exact ⟨_, rfl, .inl (by omega)⟩
    · rw [e]
      by_cases k2 : r - s.A.Gains.length < 0
      · rw [if_pos k2]; exact ⟨_, rfl, .inl (by omega)⟩
      · rw [if_neg k2]
        rcases laws_szAnchor_spec (s := s.B) (n := r - s.A.Gains.length) (by omega) w4 (by omega) with e | e
        · rw [if_pos e]; exact ⟨_, rfl, .inl (by omega)⟩
        · rw [e]
          by_cases k3 : r - s.A.Gains.length - s.B.Gains.length < 0
          · rw [if_pos k3]; exact ⟨_, rfl, .inl (by omega)⟩
          · rw [if_neg k3]
            rcases laws_szSynth_spec (s := s.Synth) (n := r - s.A.Gains.length - s.B.Gains.length) (by omega) w5 w6 (by omega) with e | e
            · rw [if_pos e]; exact ⟨_, rfl, .inl (by omega)⟩
            · rw [e]
              by_cases k4 : r - s.A.Gains.length - s.B.Gains.length - s.Synth.Head.length - s.Synth.Tail.length < 0
              · rw [if_pos k4]; exact ⟨_, rfl, .inl (by omega)⟩
              · rw [if_neg k4]
                rcases laws_szInt64S_spec (l := s.Last) (n := r - s.A.Gains.length - s.B.Gains.length - s.Synth.Head.length - s.Synth.Tail.length) (by omega) w7 (by omega) with e | e
                · rw [if_pos e]; exact ⟨_, rfl, .inl (by omega)⟩
                · rw [e]
                  by_cases k5 : r - s.A.Gains.length - s.B.Gains.length - s.Synth.Head.length - s.Synth.Tail.length - s.Last.length < 0
                  · rw [if_pos k5]; exact ⟨_, rfl, .inl (by omega)⟩
                  · rw [if_neg k5]
                    exact ⟨_, rfl, .inr ⟨by omega, by omega, ⟨by omega, fun x hx => by have := g3 x hx; omega, by omega, by omega, by omega, by omega, by omega⟩⟩⟩
theorem laws_toReceiver_eq {s : SReceiver} (h : RecvOk s) : laws_toReceiver s = some s := by
  unfold laws_toReceiver
  rw [laws_toHeldS_eq h.held h.data, laws_toAnchor_eq (by have := h.a; omega), laws_toAnchor_eq (by have := h.b; omega), laws_toSynth_eq (by have := h.head; omega) (by have := h.tail; omega), laws_toInt64S_eq (by have := h.last; omega)]; rfl
theorem small {n : Nat} (h : (n : Int) ≤ 1048576) : (n : Int) ≤ maxI := by unfold maxI; omega
theorem laws_eqAnchor_self {s : SAnchor} (h1 : (s.Gains.length : Int) ≤ maxI) : laws_eqAnchor s s = some true := by
  unfold laws_eqAnchor
  rw [laws_eqInt64S_self h1]; simp
theorem laws_eqSynth_self {s : SSynth} (h1 : (s.Head.length : Int) ≤ maxI) (h2 : (s.Tail.length : Int) ≤ maxI) : laws_eqSynth s s = some true := by
  unfold laws_eqSynth
  rw [laws_eqInt64S_self h1, laws_eqInt64S_self h2]; simp
theorem laws_eqReceiver_self {s : SReceiver} (h : RecvOk s) : laws_eqReceiver s s = some true := by
  unfold laws_eqReceiver
  rw [eqHeldS_self (small h.held) (fun x hx => small (h.data x hx)), laws_eqAnchor_self (small h.a), laws_eqAnchor_self (small h.b), laws_eqSynth_self (small h.head) (small h.tail), laws_eqInt64S_self (small h.last)]; simp
theorem laws_toLap_eq {s : SLap} (h1 : (s.Half.length : Int) ≤ 35184372088832) (h2 : (s.Rest.length : Int) ≤ 35184372088832) : laws_toLap s = some s := by
  unfold laws_toLap
  rw [laws_toInt64S_eq h1, laws_toInt64S_eq h2]; rfl
theorem laws_szLap_spec {s : SLap} {n : Int} (hn : n ≤ 1048576) (h1 : (s.Half.length : Int) ≤ maxI) (h2 : (s.Rest.length : Int) ≤ maxI) (h : 0 ≤ n) : laws_szLap s n < 0 ∨ laws_szLap s n = n - s.Half.length - s.Rest.length := by
  simp only [laws_szLap, decide_eq_true_eq]
  split
  · left; omega
  · rename_i q
    rcases laws_szInt64S_spec hn h1 h with e | e
    · omega
    · rw [e] at q ⊢
      rcases laws_szInt64S_spec (n := n - s.Half.length) (by omega) h2 (by omega) with e2 | e2
      · left; rw [if_pos e2]; omega
      · rw [e2]; split
        · left; omega
        · right; rfl
theorem laws_szSender_spec {s : SSender} {n : Int} (hn : n ≤ 1048576) (w : s.Wf) (h : 0 ≤ n) : laws_szSender s n < 0 ∨ laws_szSender s n = n - s.Lap.Half.length - s.Lap.Rest.length - s.A.Gains.length - s.B.Gains.length := by
  obtain ⟨_, _, _, _, ⟨_, w1, w2⟩, ⟨_, _, _, w3⟩, ⟨_, _, _, w4⟩, _⟩ := w
  simp only [laws_szSender, decide_eq_true_eq]
  split
  · left; omega
  · rename_i q
    rcases laws_szLap_spec hn w1.1 w2.1 h with e | e
    · omega
    · rw [e] at q ⊢
      rcases laws_szAnchor_spec (s := s.A) (n := n - s.Lap.Half.length - s.Lap.Rest.length) (by omega) w3.1 (by omega) with e2 | e2
      · left; rw [if_pos e2]; omega
      · rw [e2]
        split
        · left; omega
        · rcases laws_szAnchor_spec (s := s.B) (n := n - s.Lap.Half.length - s.Lap.Rest.length - s.A.Gains.length) (by omega) w4.1 (by omega) with e3 | e3
          · left; rw [if_pos e3]; omega
          · rw [e3]; split
            · left; omega
            · right; rfl
theorem laws_toSender_eq {s : SSender} (w : s.Wf) (h : ¬ laws_szSender s 1048576 < 0) : laws_toSender s = some s := by
  have h0 := laws_szSender_spec (n := 1048576) (by omega) w (by omega)
  unfold laws_toSender
  rw [laws_toLap_eq (by omega) (by omega), laws_toAnchor_eq (by omega), laws_toAnchor_eq (by omega)]; rfl
theorem laws_eqLap_self {s : SLap} (h1 : (s.Half.length : Int) ≤ maxI) (h2 : (s.Rest.length : Int) ≤ maxI) : laws_eqLap s s = some true := by
  unfold laws_eqLap
  rw [laws_eqInt64S_self h1, laws_eqInt64S_self h2]; simp
theorem laws_eqSender_self {s : SSender} (w : s.Wf) : laws_eqSender s s = some true := by
  obtain ⟨_, _, _, _, ⟨_, w1, w2⟩, ⟨_, _, _, w3⟩, ⟨_, _, _, w4⟩, _⟩ := w
  unfold laws_eqSender
  rw [laws_eqLap_self w1.1 w2.1, laws_eqAnchor_self w3.1, laws_eqAnchor_self w4.1]; simp
theorem sender_same {s : SSender} (w : s.Wf) : ∃ c, spec_SenderFault s = some c ∧ impl_SenderFault s = some c := by
  obtain ⟨_, _, _, _, ⟨_, w1, w2⟩, ⟨_, _, _, w3⟩, ⟨_, _, _, w4⟩, _⟩ := w
  obtain ⟨c1, p1, q1⟩ := lap_same w1.1 w2.1
  obtain ⟨c2, p2, q2⟩ := anchor_same w3.1
  obtain ⟨c3, p3, q3⟩ := anchor_same w4.1
  unfold spec_SenderFault impl_SenderFault
  rw [p1, p2, p3, q1, q2, q3]
  simp only [Option.bind_some]
  rw [impl_first_eq (by simp [maxI])]
  simp only [Option.bind_some, spec_SenderFault_u1, impl_SenderFault_u1, spec_l17Terms, spec_l17Terms_u1, impl_rateFault, impl_rateFault_u1, spec_l1In_eq, impl_inRange_eq, impl_codeIf_eq, size_same, firstL, bne]
  generalize decide (24 ≤ s.Budget ∧ s.Budget ≤ 160) = b1
  generalize decide (1 ≤ s.Refresh ∧ s.Refresh ≤ 50) = b2
  generalize decide (0 ≤ s.Number ∧ s.Number ≤ 10000) = b3
  generalize decide (0 ≤ s.SinceA ∧ s.SinceA ≤ 50) = b4
  generalize decide (0 ≤ s.SinceB ∧ s.SinceB ≤ 50) = b5
  rcases size_cases (n := s.Size) with hz | hz <;> simp only [hz]
  · cases b1 <;> cases b2 <;> cases b3 <;> cases b4 <;> cases b5 <;> (first | exact ⟨_, rfl, rfl⟩ | skip)
    by_cases k1 : c1 = 0
    · by_cases b6 : s.Lap.Size = s.Size <;> by_cases k2 : c2 = 0 <;> by_cases k3 : c3 = 0 <;> simp [k1, k2, k3, b6]
    · simp [k1]
  · exact ⟨_, rfl, rfl⟩
theorem loop_same {ς τ : Type} {step1 step2 : ς → Option (ς ⊕ τ)} (I : Nat → ς → Prop) (Q : τ → Prop) (n : Nat)
    (h : ∀ i s, i ≤ n → I i s → step1 s = step2 s ∧ ((i < n ∧ ∃ s', step2 s = some (.inl s') ∧ I (i + 1) s') ∨ ∃ t, step2 s = some (.inr t) ∧ Q t)) {s : ς} (h0 : I 0 s) : ∃ t, loopO step1 s = some t ∧ loopO step2 s = some t ∧ Q t := by
  have key : ∀ m i s, n - i = m → i ≤ n → I i s → ∃ t, loopO step1 s = some t ∧ loopO step2 s = some t ∧ Q t := by
    intro m
    induction m with
    | zero =>
      intro i s hm hi hI
      obtain ⟨e, h | ⟨t, h1, h2⟩⟩ := h i s hi hI
      · omega
      · exact ⟨t, by rw [loopO_eq, e, h1], by rw [loopO_eq, h1], h2⟩
    | succ m ih =>
      intro i s hm hi hI
      obtain ⟨e, ⟨h1, s', h2, h3⟩ | ⟨t, h1, h2⟩⟩ := h i s hi hI
      · obtain ⟨t, k1, k2, k3⟩ := ih (i + 1) s' (by omega) (by omega) h3
        exact ⟨t, by rw [loopO_eq, e, h2]; exact k1, by rw [loopO_eq, h2]; exact k2, k3⟩
      · exact ⟨t, by rw [loopO_eq, e, h1], by rw [loopO_eq, h1], h2⟩
  exact key (n - 0) 0 s rfl (Nat.zero_le _) h0
theorem and_mask {w : Nat} {a : Int} {m : Nat} (h0 : 0 ≤ a) (h1 : a < 2 ^ w) (hm : m ≤ w) (hw : 0 < w) : (BitVec.ofInt w a &&& BitVec.ofInt w (2 ^ m - 1)).toNat = a.toNat % 2 ^ m := by
  obtain ⟨n, rfl⟩ : ∃ n : Nat, a = n := ⟨a.toNat, by omega⟩
  have hn : n < 2 ^ w := by exact_mod_cast h1
  have hm2 : (2 : Nat) ^ m - 1 < 2 ^ w := by
    have := Nat.pow_le_pow_right (n := 2) (by omega) hm
    have := Nat.two_pow_pos m
    omega
  have e : ((2 : Int) ^ m - 1) = ((2 ^ m - 1 : Nat) : Int) := by
    have := Nat.two_pow_pos m
    rw [Int.natCast_sub (by omega)]; simp
  rw [e, BitVec.toNat_and]
  simp only [BitVec.ofInt_natCast, BitVec.toNat_ofNat, Int.toNat_natCast]
  rw [Nat.mod_eq_of_lt hn, Nat.mod_eq_of_lt hm2, Nat.and_two_pow_sub_one_eq_mod]
theorem and_one {w : Nat} {a : Int} (h0 : 0 ≤ a) (h1 : a < 2 ^ w) (hw : 0 < w) : (BitVec.ofInt w a &&& BitVec.ofInt w 1).toNat = a.toNat % 2 := by
  have := and_mask (m := 1) h0 h1 (by omega) hw
  simpa using this
theorem xor_lt {a b : Int} (h0 : 0 ≤ a ∧ a < 65536) (h1 : 0 ≤ b ∧ b < 65536) : (BitVec.ofInt IntKind.i64.bits a ^^^ BitVec.ofInt IntKind.i64.bits b).toNat < 65536 := by
  obtain ⟨n, rfl⟩ : ∃ n : Nat, a = n := ⟨a.toNat, by omega⟩
  obtain ⟨m, rfl⟩ : ∃ m : Nat, b = m := ⟨b.toNat, by omega⟩
  rw [BitVec.toNat_xor]
  simp only [BitVec.ofInt_natCast, BitVec.toNat_ofNat, IntKind.bits]
  rw [Nat.mod_eq_of_lt (by omega), Nat.mod_eq_of_lt (by omega)]
  exact Nat.xor_lt_two_pow (n := 16) (by omega) (by omega)
theorem fdiv_pow {a : Int} {k : Nat} (h : 0 ≤ a) : a.fdiv (2 ^ k) = ((a.toNat / 2 ^ k : Nat) : Int) := by
  obtain ⟨n, rfl⟩ : ∃ n : Nat, a = n := ⟨a.toNat, by omega⟩
  rw [Int.fdiv_eq_ediv_of_nonneg _ (by exact_mod_cast Nat.zero_le _)]
  simp only [Int.toNat_natCast]
  exact_mod_cast rfl
theorem crcBit_same {d : List Int} {n x k : Int} {a50 : List Int} {a51 a52 : Int} (hn : 0 ≤ n ∧ n < 65536) (hx : 0 ≤ x ∧ x ≤ 255) (hk : 0 ≤ k ∧ k ≤ 7) {i : Int} (hi : getI d i = some x) :
    impl_crcOf_u9 n x k a50 a51 a52 = spec_l2Crc_u9 d n i k ∧ ∃ r, spec_l2Crc_u9 d n i k = some r ∧ 0 ≤ r ∧ r < 65536 := by
  have hku : IntKind.u64.wrap k = k := wu64 (by omega)
  obtain ⟨kn, rfl⟩ : ∃ m : Nat, k = m := ⟨k.toNat, by omega⟩
  unfold impl_crcOf_u9 spec_l2Crc_u9
  rw [hi, if_neg (by omega), hku]
  simp only [Option.bind_some]
  rw [if_neg (by omega)]
  have e1 : IntKind.i64.wrap ((BitVec.ofInt IntKind.i64.bits (IntKind.i64.wrap (n * 2 ^ min 1 64)) &&& BitVec.ofInt IntKind.i64.bits 65535).toNat) = (IntKind.i64.wrap (n * 2)).tmod 65536 := by
    have : (n * 2 ^ min 1 64 : Int) = n * 2 := by rw [show min 1 64 = 1 from rfl]; omega
    rw [this, w64 (n := n * 2) (by omega)]
    have := and_mask (w := 64) (a := n * 2) (m := 16) (by omega) (by omega) (by omega) (by omega)
    have e16 : ((2 : Int) ^ 16 - 1) = 65535 := by decide
    rw [e16] at this
    have h2 : (BitVec.ofInt IntKind.i64.bits (n * 2) &&& BitVec.ofInt IntKind.i64.bits 65535).toNat = (n * 2).toNat % 65536 := this
    rw [h2, Int.tmod_eq_emod_of_nonneg (by omega), w64 (by omega)]
    omega
  have e2 : (n.fdiv (2 ^ min 15 64)) = IntKind.i64.wrap ((BitVec.ofInt IntKind.i64.bits (n.fdiv (2 ^ min 15 64)) &&& BitVec.ofInt IntKind.i64.bits 1).toNat) := by
    have hm : min 15 64 = 15 := by decide
    rw [hm, fdiv_pow hn.1]
    have h15 : n.toNat / 2 ^ 15 < 2 := by omega
    have := and_one (w := 64) (a := ((n.toNat / 2 ^ 15 : Nat) : Int)) (by omega) (by omega) (by omega)
    have h2 : (BitVec.ofInt IntKind.i64.bits ((n.toNat / 2 ^ 15 : Nat) : Int) &&& BitVec.ofInt IntKind.i64.bits 1).toNat = (n.toNat / 2 ^ 15) % 2 := by rw [Int.toNat_natCast] at this; exact this
    rw [h2, w64 (by omega)]
    omega
  have e3 : IntKind.i64.wrap (IntKind.u8.wrap ((BitVec.ofInt IntKind.u8.bits (x.fdiv (2 ^ min (kn : Int).toNat 8)) &&& BitVec.ofInt IntKind.u8.bits 1).toNat)) = IntKind.i64.wrap ((BitVec.ofInt IntKind.i64.bits ((IntKind.i64.wrap x).fdiv (2 ^ min (kn : Int).toNat 64)) &&& BitVec.ofInt IntKind.i64.bits 1).toNat) := by
    have m1 : min (kn : Int).toNat 8 = kn := by simp; omega
    have m2 : min (kn : Int).toNat 64 = kn := by simp; omega
    rw [m1, m2, w64 (n := x) (by omega), fdiv_pow hx.1]
    have hq : x.toNat / 2 ^ kn ≤ 255 := Nat.le_trans (Nat.div_le_self _ _) (by omega)
    generalize x.toNat / 2 ^ kn = q at hq ⊢
    have q1 := and_one (w := 8) (a := (q : Int)) (by omega) (by omega) (by omega)
    have q2 := and_one (w := 64) (a := (q : Int)) (by omega) (by omega) (by omega)
    have r1 : (BitVec.ofInt IntKind.u8.bits (q : Int) &&& BitVec.ofInt IntKind.u8.bits 1).toNat = q % 2 := by rw [Int.toNat_natCast] at q1; exact q1
    have r2 : (BitVec.ofInt IntKind.i64.bits (q : Int) &&& BitVec.ofInt IntKind.i64.bits 1).toNat = q % 2 := by rw [Int.toNat_natCast] at q2; exact q2
    rw [r1, r2, wu8 (by omega)]
  have e4 : 0 ≤ (IntKind.i64.wrap (n * 2)).tmod 65536 ∧ (IntKind.i64.wrap (n * 2)).tmod 65536 < 65536 := by
    rw [w64 (by omega), Int.tmod_eq_emod_of_nonneg (by omega)]; omega
  rw [e1, e3, ← e2]
  generalize (IntKind.i64.wrap (n * 2)).tmod 65536 = m at e4
  refine ⟨by rw [bne_comm]; rfl, ?_⟩
  unfold spec_l2Crc_u8
  have hx := xor_lt (a := m) (b := 4129) e4 (by omega)
  split
  · exact ⟨_, rfl, by rw [w64 (by omega)]; omega, by rw [w64 (by omega)]; omega⟩
  · exact ⟨_, rfl, e4.1, e4.2⟩
theorem crc_same {d : List Int} (hd : ∀ x ∈ d, 0 ≤ x ∧ x ≤ 255) (hl : (d.length : Int) ≤ maxI) : ∃ n, spec_l2Crc d = some n ∧ impl_crcOf d = some n ∧ 0 ≤ n ∧ n < 65536 := by
  unfold maxI at hl
  unfold spec_l2Crc impl_crcOf
  obtain ⟨t, h1, h2, h3⟩ := loop_same (step1 := impl_crcOf_s11 d (d.length : Int)) (step2 := spec_l2Crc_s11 d) (fun i s => s.2 = (i : Int) ∧ 0 ≤ s.1 ∧ s.1 < 65536) (fun t => 0 ≤ t ∧ t < 65536) d.length (by
    rintro i ⟨n, j⟩ hi ⟨hj, hn0, hn1⟩
    simp only at hj hn0 hn1
    subst hj
    simp only [impl_crcOf_s11, spec_l2Crc_s11, decide_eq_true_eq]
    rcases Nat.lt_or_ge i d.length with h | h
    · obtain ⟨x, hx, hm⟩ := get_lt h
      rw [if_pos (by omega), if_pos (by omega), getI_nat, hx, w64 (by omega)]
      simp only [Option.bind_some]
      obtain ⟨t, q1, q2, q3⟩ := loop_same (step1 := impl_crcOf_s10 x d (d.length : Int) (i : Int)) (step2 := spec_l2Crc_s10 d (i : Int)) (fun k s => s.2 = 7 - (k : Int) ∧ 0 ≤ s.1 ∧ s.1 < 65536) (fun t => 0 ≤ t ∧ t < 65536) 8 (by
        rintro k ⟨m, z⟩ hk ⟨hz, hm0, hm1⟩
        simp only at hz hm0 hm1
        subst hz
        simp only [impl_crcOf_s10, spec_l2Crc_s10, decide_eq_true_eq]
        rcases Nat.lt_or_ge k 8 with hh | hh
        · rw [if_pos (by omega), if_pos (by omega)]
          obtain ⟨e, r, er, r0, r1⟩ := crcBit_same (d := d) (n := m) (x := x) (k := 7 - (k : Int)) (a50 := d) (a51 := (d.length : Int)) (a52 := (i : Int)) ⟨hm0, hm1⟩ (hd x hm) (by omega) (i := (i : Int)) (by rw [getI_nat]; exact hx)
          rw [e, er]
          exact ⟨rfl, .inl ⟨hh, _, rfl, by simp only []; rw [w64 (by omega)]; omega, r0, r1⟩⟩
        · rw [if_neg (by omega), if_neg (by omega)]
          exact ⟨rfl, .inr ⟨_, rfl, hm0, hm1⟩⟩) (s := (n, 7)) ⟨by simp, hn0, hn1⟩
      rw [q1, q2]
      exact ⟨rfl, .inl ⟨h, _, rfl, by simp, q3.1, q3.2⟩⟩
    · rw [if_neg (by omega), if_neg (by omega)]
      exact ⟨rfl, .inr ⟨_, rfl, hn0, hn1⟩⟩) (s := (65535, 0)) ⟨by simp, by simp, by simp⟩
  rw [h1, h2]
  exact ⟨t, rfl, rfl, h3.1, h3.2⟩
theorem u8_mod {n : Int} : IntKind.u8.wrap n = n % 256 := by simp [IntKind.wrap, IntKind.bits, IntKind.signed]
theorem beq_bytes {a b : List Int} (ha : ∀ x ∈ a, 0 ≤ x ∧ x ≤ 255) (hb : ∀ x ∈ b, 0 ≤ x ∧ x ≤ 255) : ((a.map fun n => UInt8.ofNat n.toNat) == (b.map fun n => UInt8.ofNat n.toNat)) = decide (a = b) := by
  rw [Bool.eq_iff_iff, beq_iff_eq, decide_eq_true_eq]
  exact ⟨fun h => bytes_inj ha hb h, fun h => by rw [h]⟩
theorem subI_eq {α : Type} {xs : List α} {l h : Nat} (h1 : l ≤ h) (h2 : h ≤ xs.length) : subI xs (l : Int) (h : Int) = some ((xs.drop l).take (h - l)) := by
  unfold subI cutI
  rw [if_pos ⟨by omega, by omega⟩, if_pos ⟨by omega, by omega⟩]
  simp
theorem copy8 {l : List Int} (h : (l.length : Int) ≤ 1000000) : spec_l1Copy l = some l := by
  unfold spec_l1Copy; rw [if_pos (okApp_of (by omega))]
theorem clone8 {l : List Int} (h : (l.length : Int) ≤ 1000000) : slices_Clone_byte l = some l := by
  unfold slices_Clone_byte; rw [if_pos (okApp_of (by omega))]
theorem seal_spec {d : List Int} {n : Int} (h : spec_l2Crc d = some n) (hn : 0 ≤ n ∧ n < 65536) (hl : (d.length : Int) ≤ 1000000) : spec_l2Seal d = some (d ++ [n / 256, n % 256]) := by
  unfold spec_l2Seal
  rw [h]
  simp only [Option.bind_some]
  rw [copy8 hl]
  simp only [Option.bind_some]
  rw [if_pos (okApp_of (by simp; omega))]
  have e1 : n.tdiv 256 = n / 256 := Int.tdiv_eq_ediv_of_nonneg hn.1
  have e2 : n.tmod 256 = n % 256 := Int.tmod_eq_emod_of_nonneg hn.1
  rw [e1, e2, w64 (by omega), wu8 (by omega), wu8 (by omega)]
theorem two_bytes {n : Int} (hn : 0 ≤ n ∧ n < 65536) : impl_twoBytes n = [n / 256, n % 256] := by
  unfold impl_twoBytes
  rw [fdiv_pow hn.1, u8_mod, u8_mod]
  have : min 8 64 = 8 := by decide
  rw [this]
  have : ((n.toNat / 2 ^ 8 : Nat) : Int) = n / 256 := by omega
  rw [this]
  congr 1
  omega
theorem split_two {d : List Int} (h : 2 ≤ d.length) : ∃ e x y, d = e ++ [x, y] ∧ e.length = d.length - 2 := by
  have hl : (d.drop (d.length - 2)).length = 2 := by simp; omega
  obtain ⟨x, l1, e1⟩ := List.exists_cons_of_ne_nil (l := d.drop (d.length - 2)) (by intro e; rw [e] at hl; simp at hl)
  rw [e1] at hl
  obtain ⟨y, l2, rfl⟩ := List.exists_cons_of_ne_nil (l := l1) (by rintro rfl; simp at hl)
  obtain rfl : l2 = [] := List.eq_nil_of_length_eq_zero (by simpa using hl)
  exact ⟨d.take (d.length - 2), x, y, by rw [← e1, List.take_append_drop], by simp⟩
/-- What is opened. -/
noncomputable def openR (d : List Int) : SBytesResult := if 2 ≤ d.length ∧ d.length ≤ 160 then (match spec_l2Crc (d.take (d.length - 2)) with
  | some n => if d.drop (d.length - 2) = [n / 256, n % 256] then ⟨0, d.take (d.length - 2)⟩ else ⟨10, []⟩
  | none => ⟨10, []⟩) else ⟨2, []⟩
theorem open_same {d : List Int} (hd : ∀ x ∈ d, 0 ≤ x ∧ x ≤ 255) : spec_OpenBytes d = some (openR d) ∧ impl_OpenBytes d = some (openR d) := by
  unfold spec_OpenBytes impl_OpenBytes openR
  simp only [impl_inRange_eq, spec_OpenBytes_u1, decide_eq_true_eq]
  by_cases h : 2 ≤ d.length ∧ d.length ≤ 160
  · obtain ⟨e, x, y, rfl, he⟩ := split_two h.1
    have hel : e.length = (e ++ [x, y]).length - 2 := he
    have hen : (e ++ [x, y]).length = e.length + 2 := by simp
    have hde : ∀ z ∈ e, 0 ≤ z ∧ z ≤ 255 := fun z hz => hd z (by simp [hz])
    have hx := hd x (by simp)
    have hy := hd y (by simp)
    obtain ⟨n, c1, c2, c3, c4⟩ := crc_same hde (by unfold maxI; omega)
    have ht : (e ++ [x, y]).take ((e ++ [x, y]).length - 2) = e := by rw [← hel]; simp
    have hdr : (e ++ [x, y]).drop ((e ++ [x, y]).length - 2) = [x, y] := by rw [← hel]; simp
    have w1 : IntKind.i64.wrap (((e ++ [x, y]).length : Int) - 2) = ((e.length : Nat) : Int) := by rw [w64 (by omega)]; omega
    have s1 : subI (e ++ [x, y]) 0 ((e.length : Nat) : Int) = some e := by
      have := subI_eq (xs := e ++ [x, y]) (l := 0) (h := e.length) (by omega) (by omega)
      simpa using this
    have s2 : subI (e ++ [x, y]) ((e.length : Nat) : Int) ((e ++ [x, y]).length : Int) = some [x, y] := by
      have := subI_eq (xs := e ++ [x, y]) (l := e.length) (h := (e ++ [x, y]).length) (by omega) (by omega)
      rw [this]
      congr 1
      simp
    have hnb : ∀ z ∈ [n / 256, n % 256], 0 ≤ z ∧ z ≤ 255 := by
      intro z hz
      simp at hz
      rcases hz with rfl | rfl <;> omega
    have hxy : ∀ z ∈ [x, y], 0 ≤ z ∧ z ≤ 255 := by
      intro z hz
      simp at hz
      rcases hz with rfl | rfl <;> assumption
    have hs : ∀ z ∈ e ++ [n / 256, n % 256], 0 ≤ z ∧ z ≤ 255 := by
      intro z hz
      rcases List.mem_append.1 hz with hz | hz
      · exact hde z hz
      · exact hnb z hz
    have f1 : ¬ (((e ++ [x, y]).length : Int) < 2) := by omega
    have f2 : decide (((e ++ [x, y]).length : Int) > 160) = false := decide_eq_false (by omega)
    have f3 : (2 : Int) ≤ ((e ++ [x, y]).length : Int) ∧ ((e ++ [x, y]).length : Int) ≤ 160 := by omega
    have f4 : (e ++ [n / 256, n % 256] = e ++ [x, y]) ↔ ([x, y] = [n / 256, n % 256]) := by
      rw [List.append_cancel_left_eq]; exact eq_comm
    simp only [f1, f2, if_false, Bool.false_eq_true, w1, s1, s2, Option.bind_some, bytesI_eq, seal_spec c1 ⟨c3, c4⟩ (by omega), beq_bytes hs hd, f4, copy8 (l := e) (by omega), clone8 (l := e) (by omega), if_pos f3, c1, c2, bytes_Equal, two_bytes ⟨c3, c4⟩, beq_bytes hxy hnb, if_pos h, ht, hdr, decide_eq_true_eq]
    by_cases hq : [x, y] = [n / 256, n % 256]
    · simp only [hq, if_true, and_self]
    · simp only [hq, if_false, and_self]
  · have h' : ¬ (2 ≤ (d.length : Int) ∧ (d.length : Int) ≤ 160) := by omega
    simp only [if_neg h, if_neg h', and_true]
    by_cases h2 : (d.length : Int) < 2
    · simp [h2]
    · have h3 : (d.length : Int) > 160 := by omega
      simp [h2, h3]
theorem openR_ok {d : List Int} (hd : ∀ x ∈ d, 0 ≤ x ∧ x ≤ 255) : (∀ x ∈ (openR d).Bytes, 0 ≤ x ∧ x ≤ 255) ∧ (openR d).Bytes.length ≤ 158 := by
  have nil : ∀ c : Int, (∀ x ∈ (SBytesResult.mk c []).Bytes, 0 ≤ x ∧ x ≤ 255) ∧ (SBytesResult.mk c []).Bytes.length ≤ 158 := fun c => by simp
  unfold openR
  split
  · rename_i h
    split
    · split
      · exact ⟨fun x hx => hd x (List.mem_of_mem_take hx), by simp; omega⟩
      · exact nil _
    · exact nil _
  · exact nil _
theorem byteFacts : ∀ b : Fin 256, IntKind.i64.wrap ((BitVec.ofInt IntKind.i64.bits (b.val : Int) &&& BitVec.ofInt IntKind.i64.bits 1).toNat) = (b.val : Int).tmod 2 ∧
    IntKind.i64.wrap ((BitVec.ofInt IntKind.i64.bits ((b.val : Int).fdiv (2 ^ (min 2 64))) &&& BitVec.ofInt IntKind.i64.bits 3).toNat) = (IntKind.i64.wrap ((b.val : Int).tdiv 4)).tmod 4 ∧
    IntKind.i64.wrap ((BitVec.ofInt IntKind.i64.bits ((b.val : Int).fdiv (2 ^ (min 4 64))) &&& BitVec.ofInt IntKind.i64.bits 3).toNat) = (IntKind.i64.wrap ((b.val : Int).tdiv 16)).tmod 4 ∧
    decide (IntKind.i64.wrap ((BitVec.ofInt IntKind.i64.bits (b.val : Int) &&& BitVec.ofInt IntKind.i64.bits 2).toNat) > 0) = ((IntKind.i64.wrap ((b.val : Int).tdiv 2)).tmod 2 == 1) ∧
    IntKind.i64.wrap ((b.val : Int).tdiv 64) = (b.val : Int).fdiv (2 ^ (min 6 64)) ∧ 0 ≤ (b.val : Int).fdiv (2 ^ (min 6 64)) ∧ (b.val : Int).fdiv (2 ^ (min 6 64)) ≤ 3 := by decide +kernel
theorem or_bytes {a b : Int} (ha : 0 ≤ a ∧ a ≤ 255) (hb : 0 ≤ b ∧ b ≤ 255) : IntKind.i64.wrap ((BitVec.ofInt IntKind.i64.bits (IntKind.i64.wrap (a * 2 ^ (min 8 64))) ||| BitVec.ofInt IntKind.i64.bits b).toNat) = a * 256 + b := by
  obtain ⟨n, rfl⟩ : ∃ n : Nat, a = n := ⟨a.toNat, by omega⟩
  obtain ⟨m, rfl⟩ : ∃ m : Nat, b = m := ⟨b.toNat, by omega⟩
  have h8 : min 8 64 = 8 := by decide
  have e : ((n : Int) * 2 ^ 8) = ((2 ^ 8 * n : Nat) : Int) := by omega
  rw [h8, e, w64 (n := ((2 ^ 8 * n : Nat) : Int)) (by omega), BitVec.toNat_or]
  simp only [BitVec.ofInt_natCast, BitVec.toNat_ofNat, IntKind.bits]
  rw [Nat.mod_eq_of_lt (by omega), Nat.mod_eq_of_lt (by omega), ← Nat.two_pow_add_eq_or_of_lt (by omega), w64 (by omega)]
  omega
theorem head_same {d : List Int} (hd : ∀ x ∈ d, 0 ≤ x ∧ x ≤ 255) : ∃ r, spec_ReadHead d = some r ∧ impl_ReadHead d = some r ∧ (r.Code = 0 → (0 ≤ r.Head.Side ∧ r.Head.Side ≤ 1) ∧ (0 ≤ r.Head.Number ∧ r.Head.Number ≤ 9999)) := by
  unfold spec_ReadHead impl_ReadHead
  obtain ⟨o1, o2⟩ := open_same hd
  obtain ⟨b1, b2⟩ := openR_ok hd
  rw [o1, o2]
  simp only [Option.bind_some]
  by_cases hc : ((openR d).Code != 0) = true
  · simp only [hc, if_true]
    exact ⟨_, rfl, rfl, fun h => absurd (show (openR d).Code = 0 from h) (by simpa using hc)⟩
  · simp only [hc, Bool.false_eq_true, if_false]
    generalize (openR d).Bytes = l at b1 b2
    unfold impl_readHead
    simp only [decide_eq_true_eq]
    by_cases h3 : (l.length : Int) < 3
    · simp only [h3, if_true, Option.bind_some, Bool.false_eq_true, if_false]
      exact ⟨_, rfl, rfl, fun h => by simp at h⟩
    · simp only [h3, if_false]
      obtain ⟨x0, e0, m0⟩ := get_lt (l := l) (i := 0) (by omega)
      obtain ⟨x1, e1, m1⟩ := get_lt (l := l) (i := 1) (by omega)
      obtain ⟨x2, e2, m2⟩ := get_lt (l := l) (i := 2) (by omega)
      have g0 : getI l 0 = some x0 := by rw [← e0]; exact getI_nat (i := 0)
      have g1 : getI l 1 = some x1 := by rw [← e1]; exact getI_nat (i := 1)
      have g2 : getI l 2 = some x2 := by rw [← e2]; exact getI_nat (i := 2)
      have t0 : l[(0 : Int).toNat]? = some x0 := e0
      have t1 : l[(1 : Int).toNat]? = some x1 := e1
      have t2 : l[(2 : Int).toNat]? = some x2 := e2
      have r0 := b1 x0 m0
      have r1 := b1 x1 m1
      have r2 := b1 x2 m2
      obtain ⟨f1, f2, f3, f4, f5, f6, f7⟩ := byteFacts ⟨x2.toNat, by omega⟩
      have ex : ((x2.toNat : Nat) : Int) = x2 := by omega
      simp only [ex] at f1 f2 f3 f4 f5 f6 f7
      have w0 : IntKind.i64.wrap x0 = x0 := w64 (by omega)
      have w1 : IntKind.i64.wrap x1 = x1 := w64 (by omega)
      have w2 : IntKind.i64.wrap x2 = x2 := w64 (by omega)
      have wn : IntKind.i64.wrap (IntKind.i64.wrap (x0 * 256) + x1) = x0 * 256 + x1 := by rw [w64 (n := x0 * 256) (by omega), w64 (by omega)]
      simp only [g0, g1, g2, t0, t1, t2, Option.bind_some, w0, w1, w2, wn, or_bytes r0 r1, f1, f2, f3, f4, f5]
      rw [if_neg (show ¬ x2.fdiv (2 ^ (min 6 64)) < 0 by omega)]
      generalize hq : x2.fdiv (2 ^ (min 6 64)) = q at f6 f7
      have hsz : q < 3 → IntKind.i64.wrap (4 * 2 ^ (min q.toNat 64)) = spec_ReadHead_u2 (x0 * 256 + x1) (x2.tmod 2) ((IntKind.i64.wrap (x2.tdiv 4)).tmod 4) ((IntKind.i64.wrap (x2.tdiv 16)).tmod 4) ((IntKind.i64.wrap (x2.tdiv 2)).tmod 2 == 1) q := by
        intro h
        have : q = 0 ∨ q = 1 ∨ q = 2 := by omega
        rcases this with rfl | rfl | rfl <;> simp only [spec_ReadHead_u2, spec_ReadHead_u1] <;> decide
      have hside : 0 ≤ x2.tmod 2 ∧ x2.tmod 2 ≤ 1 := by rw [Int.tmod_eq_emod_of_nonneg r2.1]; omega
      have hu3 : spec_ReadHead_u3 (x0 * 256 + x1) (spec_ReadHead_u2 (x0 * 256 + x1) (x2.tmod 2) ((IntKind.i64.wrap (x2.tdiv 4)).tmod 4) ((IntKind.i64.wrap (x2.tdiv 16)).tmod 4) ((IntKind.i64.wrap (x2.tdiv 2)).tmod 2 == 1) q) (x2.tmod 2) ((IntKind.i64.wrap (x2.tdiv 4)).tmod 4) ((IntKind.i64.wrap (x2.tdiv 16)).tmod 4) ((IntKind.i64.wrap (x2.tdiv 2)).tmod 2 == 1) =
          !(impl_readHead_u1 (x0 * 256 + x1) (IntKind.i64.wrap (4 * 2 ^ (min q.toNat 64))) (x2.tmod 2) ((IntKind.i64.wrap (x2.tdiv 4)).tmod 4) ((IntKind.i64.wrap (x2.tdiv 16)).tmod 4) ((IntKind.i64.wrap (x2.tdiv 2)).tmod 2 == 1) x2) := by
        have hsp : 0 ≤ (IntKind.i64.wrap (x2.tdiv 4)).tmod 4 := by
          have : 0 ≤ x2.tdiv 4 ∧ x2.tdiv 4 ≤ 255 := by rw [Int.tdiv_eq_ediv_of_nonneg r2.1]; omega
          rw [w64 (by omega), Int.tmod_eq_emod_of_nonneg this.1]; omega
        generalize (IntKind.i64.wrap (x2.tdiv 4)).tmod 4 = sp at hsp
        simp only [spec_ReadHead_u3, impl_readHead_u1, impl_isNumber, impl_isSpread, impl_inRange_eq, decide_eq_true_eq, hq]
        by_cases k1 : x0 * 256 + x1 > 9999
        · rw [if_pos k1, if_neg (show ¬ (0 ≤ x0 * 256 + x1 ∧ x0 * 256 + x1 ≤ 9999) by omega)]; rfl
        · rw [if_neg k1, if_pos (show 0 ≤ x0 * 256 + x1 ∧ x0 * 256 + x1 ≤ 9999 by omega)]
          by_cases k2 : sp > 2
          · rw [if_pos k2, if_neg (show ¬ (0 ≤ sp ∧ sp ≤ 2) by omega)]; rfl
          · rw [if_neg k2, if_pos (show 0 ≤ sp ∧ sp ≤ 2 by omega)]
            have : q = 0 ∨ q = 1 ∨ q = 2 ∨ q = 3 := by omega
            rcases this with rfl | rfl | rfl | rfl <;> simp only [spec_ReadHead_u2, spec_ReadHead_u1] <;> decide
      rw [hu3]
      cases hk : impl_readHead_u1 (x0 * 256 + x1) (IntKind.i64.wrap (4 * 2 ^ (min q.toNat 64))) (x2.tmod 2) ((IntKind.i64.wrap (x2.tdiv 4)).tmod 4) ((IntKind.i64.wrap (x2.tdiv 16)).tmod 4) ((IntKind.i64.wrap (x2.tdiv 2)).tmod 2 == 1) x2 with
      | false =>
        simp only [Bool.not_false, if_true, Bool.false_eq_true, if_false]
        exact ⟨_, rfl, rfl, fun h => by simp at h⟩
      | true =>
        simp only [impl_readHead_u1, impl_isNumber, impl_inRange_eq, decide_eq_true_eq, hq] at hk
        split at hk
        · rename_i hnum
          split at hk
          · rw [← hsz (by simpa using hk)]
            simp only [Bool.not_true, Bool.false_eq_true, if_false, if_true]
            exact ⟨_, rfl, rfl, fun _ => ⟨hside, hnum⟩⟩
          · simp at hk
        · simp at hk
theorem synth_same {s : SSynth} (h1 : (s.Head.length : Int) ≤ maxI) (h2 : (s.Tail.length : Int) ≤ maxI) : ∃ c, spec_SynthFault s = some c ∧ impl_SynthFault s = some c := by
  unfold spec_SynthFault impl_SynthFault
  simp only [spec_SynthFault_u1, spec_SynthFault_u2, impl_SynthFault_u1, allWithin_eq (k := 1073741824) (by omega) h1, allWithin_eq (k := 268435456) (by omega) h2, l1All_all h1, l1All_all h2, size_same, impl_halfOf, impl_codeIf_eq, Option.bind_some]
  generalize (s.Head.all fun x => decide (-1073741824 ≤ x ∧ x ≤ 1073741824)) = A
  generalize (s.Tail.all fun x => decide (-268435456 ≤ x ∧ x ≤ 268435456)) = B
  generalize IntKind.i64.wrap (s.Size.tdiv 2) = w
  have ha : ∀ a b c : Int, impl_first [a, b, c] = some (firstL [a, b, c]) := fun a b c => impl_first_eq (by simp [maxI])
  simp only [ha, Option.bind_some, bne]
  generalize ((s.Head.length : Int) == w) = b1
  generalize ((s.Tail.length : Int) == w) = b2
  rcases size_cases (n := s.Size) with hz | hz <;> rw [hz] <;> cases A <;> cases B <;> cases b1 <;> cases b2 <;> exact ⟨_, rfl, rfl⟩
theorem cmp_eq {a b : Int} : cmp_Compare_int64 a b = if a < b then -1 else if a > b then 1 else 0 := by
  unfold cmp_Compare_int64 cmp_isNaN_int64
  simp
theorem cmpHeld_eq {x y : SHeld} : impl_compareHeld x y = some (if cmp_Compare_int64 x.Number y.Number ≠ 0 then cmp_Compare_int64 x.Number y.Number else cmp_Compare_int64 x.Side y.Side) := by
  unfold impl_compareHeld
  have : cmp_Or_int [cmp_Compare_int64 x.Number y.Number, cmp_Compare_int64 x.Side y.Side] = impl_first [cmp_Compare_int64 x.Number y.Number, cmp_Compare_int64 x.Side y.Side] := rfl
  rw [this, impl_first_eq (by simp [maxI])]
  simp only [Option.bind_some, firstL]
  split
  · rfl
  · split
    · rfl
    · rename_i h; simp only [ne_eq, Classical.not_not] at h; rw [h]
/-- A held packet in its place. -/
def HeldOk (s : SReceiver) (x : SHeld) : Prop := (s.Next ≤ x.Number ∧ x.Number ≤ s.Next + 8) ∧ 0 ≤ x.Side ∧ x.Side ≤ 1
theorem held_same {s : SReceiver} (hn : 0 ≤ s.Next ∧ s.Next ≤ 10000) (hl : (s.Held.length : Int) ≤ maxI) (hd : ∀ x ∈ s.Held, ∀ b ∈ x.Data, 0 ≤ b ∧ b ≤ 255) : ∃ c, spec_l18Held s = some c ∧ impl_heldFault s = some c := by
  unfold maxI at hl
  unfold spec_l18Held impl_heldFault
  have w8 : IntKind.i64.wrap (s.Next + 8) = s.Next + 8 := w64 (by omega)
  obtain ⟨t, h1, h2, h3⟩ := loop_same (step1 := impl_heldFault_s3 s.Size s.Next s.Held s.A.Known s.A.Number s.A.Rung s.A.Gains s.B.Known s.B.Number s.B.Rung s.B.Gains s.Synth.Size s.Synth.Head s.Synth.Tail s.Last s.Lost (s.Held.length : Int))
      (step2 := spec_l18Held_s3 s.Size s.Next s.Held s.A.Known s.A.Number s.A.Rung s.A.Gains s.B.Known s.B.Number s.B.Rung s.B.Gains s.Synth.Size s.Synth.Head s.Synth.Tail s.Last s.Lost)
      (fun i a => a = (i : Int) ∧ ∀ (j : Nat) (x : SHeld), j < i → s.Held[j]? = some x → HeldOk s x) (fun t => (t = .inl () ∧ ∀ x ∈ s.Held, HeldOk s x) ∨ ∃ c, t = .inr c) s.Held.length (by
    rintro i a hi ⟨rfl, hj⟩
    simp only [impl_heldFault_s3, spec_l18Held_s3, decide_eq_true_eq]
    rcases Nat.lt_or_ge i s.Held.length with h | h
    · obtain ⟨x, hx, hm⟩ := get_lt h
      obtain ⟨r, r1, r2, r3⟩ := head_same (hd x hm)
      rw [if_pos (by omega), if_pos (by omega), getI_nat, hx]
      simp only [Option.bind_some, spec_l1In_eq, impl_inRange_eq, w8, r1, r2, decide_eq_true_eq]
      by_cases hin : s.Next ≤ x.Number ∧ x.Number ≤ s.Next + 8
      · rw [if_pos hin, if_pos hin]
        refine ⟨rfl, ?_⟩
        by_cases hq : spec_l18Held_u2 x.Number x.Side x.Data r.Code r.Head.Number r.Head.Size r.Head.Side r.Head.Spread r.Head.Mask r.Head.Intra s.Size s.Next s.Held s.A.Known s.A.Number s.A.Rung s.A.Gains s.B.Known s.B.Number s.B.Rung s.B.Gains s.Synth.Size s.Synth.Head s.Synth.Tail s.Last s.Lost (i : Int) = true
        · rw [if_pos hq]; exact .inr ⟨_, rfl, .inr ⟨1, rfl⟩⟩
        · rw [if_neg hq, w64 (by omega)]
          refine .inl ⟨h, _, rfl, by simp, fun j y hj' hy => ?_⟩
          rcases Nat.lt_or_ge j i with hji | hji
          · exact hj j y hji hy
          · obtain rfl : j = i := by omega
            rw [hx] at hy; obtain rfl := Option.some.inj hy
            unfold spec_l18Held_u2 at hq
            by_cases q1 : r.Code = 0
            · by_cases q2 : r.Head.Number = x.Number
              · by_cases q3 : r.Head.Side = x.Side
                · exact ⟨hin, by rw [← q3]; exact (r3 q1).1⟩
                · simp [q1, q2, q3] at hq
              · simp [q1, q2] at hq
            · simp [q1] at hq
      · rw [if_neg hin, if_neg hin]; exact ⟨rfl, .inr ⟨_, rfl, .inr ⟨3, rfl⟩⟩⟩
    · rw [if_neg (by omega), if_neg (by omega)]
      refine ⟨rfl, .inr ⟨_, rfl, .inl ⟨rfl, fun x hx => ?_⟩⟩⟩
      obtain ⟨j, hj'⟩ := List.getElem?_of_mem hx
      exact hj j x (by have := (List.getElem?_eq_some_iff.1 hj').1; omega) hj') (s := 0) ⟨rfl, fun j x hj => by omega⟩
  rw [h1, h2]
  rcases h3 with ⟨rfl, hok⟩ | ⟨c, rfl⟩
  · simp only [Option.bind_some, Sum.elim_inl]
    obtain ⟨t, g1, g2, _⟩ := loop_same (step1 := impl_heldFault_s4 s.Size s.Next s.Held s.A.Known s.A.Number s.A.Rung s.A.Gains s.B.Known s.B.Number s.B.Rung s.B.Gains s.Synth.Size s.Synth.Head s.Synth.Tail s.Last s.Lost)
        (step2 := spec_l18Held_s4 s.Size s.Next s.Held s.A.Known s.A.Number s.A.Rung s.A.Gains s.B.Known s.B.Number s.B.Rung s.B.Gains s.Synth.Size s.Synth.Head s.Synth.Tail s.Last s.Lost)
        (fun i a => a = (i : Int) + 1) (fun _ => True) s.Held.length (by
      rintro i a hi rfl
      simp only [impl_heldFault_s4, spec_l18Held_s4, decide_eq_true_eq]
      rcases Nat.lt_or_ge (i + 1) s.Held.length with h | h
      · obtain ⟨x, hx, hm⟩ := get_lt (l := s.Held) (i := i) (by omega)
        obtain ⟨y, hy, hm'⟩ := get_lt h
        have e1 : IntKind.i64.wrap ((i : Int) + 1 - 1) = (i : Int) := by rw [w64 (by omega)]; omega
        have e2 : ((i : Int) + 1) = ((i + 1 : Nat) : Int) := by omega
        rw [if_pos (by omega), if_pos (by omega), e1, getI_nat, hx]
        simp only [Option.bind_some, e2, getI_nat, hy, cmpHeld_eq]
        obtain ⟨x1, x2⟩ := hok x hm
        obtain ⟨y1, y2⟩ := hok y hm'
        have px : spec_l18Place x = 2 * x.Number + x.Side := by unfold spec_l18Place; rw [w64 (n := 2 * x.Number) (by omega), w64 (by omega)]
        have py : spec_l18Place y = 2 * y.Number + y.Side := by unfold spec_l18Place; rw [w64 (n := 2 * y.Number) (by omega), w64 (by omega)]
        have key : ((if cmp_Compare_int64 x.Number y.Number ≠ 0 then cmp_Compare_int64 x.Number y.Number else cmp_Compare_int64 x.Side y.Side) ≥ 0) ↔ (2 * x.Number + x.Side ≥ 2 * y.Number + y.Side) := by
          rw [cmp_eq, cmp_eq]
          by_cases c1 : x.Number < y.Number
          · simp [c1]; omega
          · by_cases c2 : x.Number > y.Number
            · simp [c1, c2]; omega
            · by_cases c3 : x.Side < y.Side
              · simp [c1, c2, c3]; omega
              · by_cases c4 : x.Side > y.Side
                · simp [c1, c2, c3, c4]; omega
                · simp [c1, c2, c3, c4]; omega
        rw [px, py]
        by_cases hk : 2 * x.Number + x.Side ≥ 2 * y.Number + y.Side
        · rw [if_pos (key.2 hk), if_pos hk]; exact ⟨rfl, .inr ⟨_, rfl, trivial⟩⟩
        · rw [if_neg (fun q => hk (key.1 q)), if_neg hk, w64 (by omega)]; exact ⟨rfl, .inl ⟨by omega, _, rfl, by omega⟩⟩
      · rw [if_neg (by omega), if_neg (by omega)]
        exact ⟨rfl, .inr ⟨_, rfl, trivial⟩⟩) (s := 1) (by simp)
    rw [g1, g2]
    cases t with
    | inl u => exact ⟨0, rfl, rfl⟩
    | inr u => exact ⟨1, rfl, rfl⟩
  · exact ⟨c, rfl, rfl⟩
theorem receiver_same {s : SReceiver} (w : s.Wf) : ∃ c, spec_ReceiverFault s = some c ∧ impl_ReceiverFault s = some c := by
  obtain ⟨_, _, ⟨w0, w1⟩, ⟨_, _, _, w3, _⟩, ⟨_, _, _, w4, _⟩, ⟨_, ⟨w5, _⟩, ⟨w6, _⟩⟩, ⟨w7, _⟩, _⟩ := w
  obtain ⟨c1, p1, q1⟩ := synth_same (s := s.Synth) w5 w6
  obtain ⟨c2, p2, q2⟩ := anchor_same (s := s.A) w3
  obtain ⟨c3, p3, q3⟩ := anchor_same (s := s.B) w4
  have hf : ∀ a b c d e f g h : Int, impl_first [a, b, c, d, e, f, g, h] = some (firstL [a, b, c, d, e, f, g, h]) := fun a b c d e f g h => impl_first_eq (by simp [maxI])
  have eY : SSynth.mk s.Synth.Size s.Synth.Head s.Synth.Tail = s.Synth := rfl
  have eA : SAnchor.mk s.A.Known s.A.Number s.A.Rung s.A.Gains = s.A := rfl
  have eB : SAnchor.mk s.B.Known s.B.Number s.B.Rung s.B.Gains = s.B := rfl
  have hu : impl_ReceiverFault_u1 s.Size s.Next s.Held s.A.Known s.A.Number s.A.Rung s.A.Gains s.B.Known s.B.Number s.B.Rung s.B.Gains s.Synth.Size s.Synth.Head s.Synth.Tail s.Last s.Lost =
      some (firstL [spec_SizeFault s.Size, if (0 ≤ s.Next ∧ s.Next ≤ 10000) ∧ 0 ≤ s.Lost ∧ s.Lost ≤ 100 then 0 else 3, if (s.Held.length : Int) > 18 ∨ (s.Last.length : Int) ≠ s.Size then 2 else 0,
        if (s.Last.all fun x => decide (-16777216 ≤ x ∧ x ≤ 16777216)) = true then 0 else 3, c1, if s.Synth.Size ≠ s.Size then 1 else 0, c2, c3]) := by
    unfold impl_ReceiverFault_u1
    simp only [impl_inRange_eq, decide_eq_true_eq, allWithin_eq (k := 16777216) (by omega) w7, eY, eA, eB, q1, q2, q3, Option.bind_some, impl_codeIf_eq, size_same]
    generalize (s.Last.all fun x => decide (-16777216 ≤ x ∧ x ≤ 16777216)) = A
    by_cases k1 : 0 ≤ s.Next ∧ s.Next ≤ 10000 <;> by_cases k2 : (s.Held.length : Int) > 18 <;> by_cases k3 : 0 ≤ s.Lost ∧ s.Lost ≤ 100 <;> by_cases k4 : (s.Last.length : Int) = s.Size <;> by_cases k5 : s.Synth.Size = s.Size <;>
      simp only [k1, k2, k3, k4, k5, hf, Option.bind_some, decide_true, decide_false, if_true, if_false, and_true, and_false, Bool.not_true, Bool.not_false, bne_self_eq_false, Bool.false_eq_true, or_true, or_false, ne_eq, not_true, not_false_eq_true, bne_iff_ne] <;> cases A <;> rfl
  unfold spec_ReceiverFault impl_ReceiverFault
  rw [hu]
  simp only [Option.bind_some, spec_ReceiverFault_u1, spec_ReceiverFault_u2, spec_l1In_eq, l1All_all w7, p1, p2, p3, decide_eq_true_eq, firstL]
  by_cases hn : 0 ≤ s.Next ∧ s.Next ≤ 10000
  · obtain ⟨c4, p4, q4⟩ := held_same hn w0 (fun x hx b hb => wfU8.1 ((w1 x hx).2.2.2 b hb))
    simp only [p4, q4, Option.bind_some]
    generalize (s.Last.all fun x => decide (-16777216 ≤ x ∧ x ≤ 16777216)) = A
    rcases size_cases (n := s.Size) with hz | hz <;> simp only [hz]
    · by_cases k3 : 0 ≤ s.Lost ∧ s.Lost ≤ 100
      · by_cases k2 : (s.Held.length : Int) > 18
        · simp [hn, k2, k3]
        · by_cases k4 : (s.Last.length : Int) = s.Size
          · cases A
            · simp [hn, k2, k3, k4]
            · by_cases m1 : c1 = 0
              · by_cases k5 : s.Synth.Size = s.Size
                · by_cases m2 : c2 = 0
                  · by_cases m3 : c3 = 0
                    · simp [hn, k2, k3, k4, m1, m2, m3, k5]
                    · simp [hn, k2, k3, k4, m1, m2, m3, k5]
                  · simp [hn, k2, k3, k4, m1, m2, k5]
                · simp [hn, k2, k3, k4, m1, k5]
              · simp [hn, k2, k3, k4, m1]
          · simp [hn, k2, k3, k4]
      · simp [hn, k3]
    · exact ⟨3, by simp, by simp⟩
  · rcases size_cases (n := s.Size) with hz | hz <;> simp [hz, hn]
theorem laws_toScheduler_eq {s : SScheduler} (hl : (s.Window.length : Int) ≤ 35184372088832) : laws_toScheduler s = some s := by
  unfold laws_toScheduler
  rw [laws_toInt64S_eq hl]; rfl
theorem laws_eqScheduler_self {s : SScheduler} (hl : (s.Window.length : Int) ≤ maxI) : laws_eqScheduler s s = some true := by
  unfold laws_eqScheduler
  rw [if_neg (by simp), laws_eqInt64S_self hl]; rfl
theorem schedFault_contains {l : List Int} (hl : (l.length : Int) ≤ maxI) : slices_ContainsFunc_int64_impl_SchedulerFault_1 l = some (decide (∃ x ∈ l, ¬ (0 ≤ x ∧ x ≤ 3))) := by
  unfold maxI at hl
  unfold slices_ContainsFunc_int64_impl_SchedulerFault_1 slices_IndexFunc_int64_impl_SchedulerFault_1
  have hp : ∀ x, impl_SchedulerFault_1 x = decide (¬ (0 ≤ x ∧ x ≤ 3)) := fun x => by
    simp only [impl_SchedulerFault_1, impl_isGot, impl_inRange_eq]
    by_cases h : 0 ≤ x ∧ x ≤ 3 <;> simp [h]
  obtain ⟨t, h1, h2⟩ := loop_rule (step := slices_IndexFunc_int64_impl_SchedulerFault_1_s1 l (l.length : Int)) (fun i s => s = (i : Int) ∧ ∀ j x, j < i → l[j]? = some x → 0 ≤ x ∧ x ≤ 3)
      (fun t => (t = .inl () ∧ ∀ x ∈ l, 0 ≤ x ∧ x ≤ 3) ∨ (∃ n : Int, 0 ≤ n ∧ t = .inr n ∧ ∃ x ∈ l, ¬ (0 ≤ x ∧ x ≤ 3))) l.length (by
    rintro i s hi ⟨rfl, hj⟩
    simp only [slices_IndexFunc_int64_impl_SchedulerFault_1_s1, decide_eq_true_eq]
    rcases Nat.lt_or_ge i l.length with h | h
    · obtain ⟨x, hx, hm⟩ := get_lt h
      rw [if_pos (by omega), getI_nat, hx, w64 (by omega)]
      simp only [Option.bind_some, hp, decide_eq_true_eq]
      by_cases hq : 0 ≤ x ∧ x ≤ 3
      · left
        rw [if_neg (fun h => h hq)]
        refine ⟨h, _, rfl, by simp, fun j y hj' hy => ?_⟩
        rcases Nat.lt_or_ge j i with hji | hji
        · exact hj j y hji hy
        · obtain rfl : j = i := by omega
          rw [hx] at hy; obtain rfl := Option.some.inj hy; exact hq
      · right
        rw [if_pos hq]
        exact ⟨_, rfl, .inr ⟨_, by omega, rfl, x, hm, hq⟩⟩
    · right
      rw [if_neg (by omega)]
      refine ⟨_, rfl, .inl ⟨rfl, fun x hx => ?_⟩⟩
      obtain ⟨j, hj'⟩ := List.getElem?_of_mem hx
      exact hj j x (by have := (List.getElem?_eq_some_iff.1 hj').1; omega) hj') (s := 0) ⟨rfl, fun j x hj => by omega⟩
  rw [h1]
  rcases h2 with ⟨rfl, h⟩ | ⟨n, hn, rfl, x, hx, h⟩
  · simp only [Option.bind_some, Sum.elim_inl, Option.some.injEq]
    rw [decide_eq_false (by omega)]
    exact (decide_eq_false fun ⟨x, hx, hh⟩ => hh (h x hx)).symm
  · simp only [Option.bind_some, Sum.elim_inr, Option.some.injEq]
    rw [decide_eq_true (by omega)]
    exact (decide_eq_true ⟨x, hx, h⟩).symm
theorem schedFault_same {s : SScheduler} (hl : (s.Window.length : Int) ≤ maxI) : impl_SchedulerFault s = spec_SchedulerFault s ∧ (spec_SchedulerFault s).isSome = true := by
  unfold impl_SchedulerFault spec_SchedulerFault
  rw [schedFault_contains hl, spec_l1All_eq hl]
  simp only [Option.bind_some]
  rw [impl_first_eq (by simp [maxI])]
  simp only [Option.bind_some, spec_l1In_eq, impl_inRange_eq, impl_codeIf_eq, firstL]
  by_cases h1 : -1 ≤ s.Last ∧ s.Last ≤ 9999
  · by_cases h2 : (s.Window.length : Int) > 6
    · simp [h1, h2]
    · by_cases h3 : ∀ x ∈ s.Window, 0 ≤ x ∧ x ≤ 3
      · have h4 : ¬ ∃ x ∈ s.Window, ¬ (0 ≤ x ∧ x ≤ 3) := fun ⟨x, hx, hh⟩ => hh (h3 x hx)
        rw [decide_eq_true h3, decide_eq_false h4]
        by_cases h5 : ((s.Last == -1) == ((s.Window.length : Int) == 0)) = true
        · simp [h1, h2, h5]
        · simp [h1, h2, h5]
      · have h4 : ∃ x ∈ s.Window, ¬ (0 ≤ x ∧ x ≤ 3) := Classical.byContradiction fun hh => h3 fun x hx => Classical.byContradiction fun h => hh ⟨x, hx, h⟩
        rw [decide_eq_false h3, decide_eq_true h4]
        simp [h1, h2]
  · simp [h1]
theorem reportFault_eq (r : SReport) : spec_ReportFault r = (if (0 ≤ r.Number ∧ r.Number ≤ 9999) ∧ 0 ≤ r.Got ∧ r.Got ≤ 3 then 0 else 3) ∧ impl_ReportFault r = (if (0 ≤ r.Number ∧ r.Number ≤ 9999) ∧ 0 ≤ r.Got ∧ r.Got ≤ 3 then 0 else 3) := by
  simp only [spec_ReportFault, spec_ReportFault_u1, impl_ReportFault, impl_ReportFault_u1, impl_isNumber, impl_isGot, spec_l14Number, spec_l1In_eq, impl_inRange_eq, impl_codeIf_eq, decide_eq_true_eq]
  by_cases h1 : 0 ≤ r.Number ∧ r.Number ≤ 9999 <;> by_cases h2 : 0 ≤ r.Got ∧ r.Got ≤ 3 <;> simp [h1, h2]
/-- What a report comes to. -/
structure SendOk (s : SSender) : Prop where
  half : (s.Lap.Half.length : Int) ≤ 1048576
  rest : (s.Lap.Rest.length : Int) ≤ 1048576
  a : (s.A.Gains.length : Int) ≤ 1048576
  b : (s.B.Gains.length : Int) ≤ 1048576
theorem sender_toSelf {s : SSender} (k : SendOk s) : laws_toSender s = some s := by
  unfold laws_toSender
  rw [laws_toLap_eq (by have := k.half; omega) (by have := k.rest; omega), laws_toAnchor_eq (by have := k.a; omega), laws_toAnchor_eq (by have := k.b; omega)]; rfl
theorem sendOk_of {s : SSender} {n : Int} (hn : n ≤ 1048576) (w : s.Wf) (h : 0 ≤ n) (hs : ¬ laws_szSender s n < 0) : SendOk s ∧ 0 ≤ laws_szSender s n ∧ laws_szSender s n ≤ n := by
  have e := (laws_szSender_spec hn w h).resolve_left hs
  exact ⟨⟨by omega, by omega, by omega, by omega⟩, by omega, by omega⟩
def qFlight (x y : SFlight) : Bool := (x.Due == y.Due) && decide (x.Data = y.Data)
theorem eqFlight_eq {x y : SFlight} (h : (x.Data.length : Int) ≤ maxI) : laws_eqFlight x y = some (qFlight x y) := by
  unfold laws_eqFlight qFlight
  simp only [eqByteS_eq h, Option.bind_some]
  by_cases h1 : x.Due = y.Due <;> by_cases h3 : x.Data = y.Data <;> simp [h1, h3]
theorem qFlight_self (x : SFlight) : qFlight x x = true := by simp [qFlight]
theorem eqFlightS_self {l : List SFlight} (hl : (l.length : Int) ≤ maxI) (hw : ∀ x ∈ l, (x.Data.length : Int) ≤ maxI) : laws_eqFlightS l l = some true := by
  unfold laws_eqFlightS
  rw [if_neg (by simp)]
  have e := same_loop qFlight (l := l) (m := l) (step := laws_eqFlightS_s1 l l) rfl (fun i x y hx hy => by
    have hi : i < l.length := (List.getElem?_eq_some_iff.1 hx).1
    have hxy : x = y := by rw [hx] at hy; exact Option.some.inj hy
    subst hxy
    simp only [laws_eqFlightS_s1, decide_eq_true_eq]
    rw [if_pos (by omega), getI_nat, hx]
    simp only [Option.bind_some, eqFlight_eq (hw x (List.mem_of_getElem? hx))]
    cases qFlight x x <;> rfl) (by simp only [laws_eqFlightS_s1, decide_eq_true_eq]; rw [if_neg (by omega)]) hl
  rw [e, allSame_self fun x _ => qFlight_self x]
theorem laws_toFlight_eq {s : SFlight} (hl : (s.Data.length : Int) ≤ 1048576) : laws_toFlight s = some s := by
  unfold laws_toFlight; rw [laws_toByteS_eq hl]; rfl
theorem laws_toFlightS_eq {l : List SFlight} (hl : (l.length : Int) ≤ 1048576) (hw : ∀ x ∈ l, (x.Data.length : Int) ≤ 1048576) : laws_toFlightS l = some l := by
  unfold laws_toFlightS
  rw [if_pos (okMake_of (by omega) (by simp; omega) (by omega)), Int.toNat_natCast, copy_loop (fun a i x y hx hy ha => ?_) (fun a => ?_) (by unfold maxI; omega)]
  · rfl
  · have hi : i < l.length := (List.getElem?_eq_some_iff.1 hx).1
    simp only [laws_toFlightS_s1, decide_eq_true_eq]
    rw [if_pos (by omega), getI_nat, hx]
    simp only [Option.bind_some, laws_toFlight_eq (hw x (List.mem_of_getElem? hx))]
    rw [getI_nat, hy, Int.toNat_natCast, hy]; rfl
  · simp only [laws_toFlightS_s1, decide_eq_true_eq]; rw [if_neg (by omega)]
theorem laws_szFlight_spec {s : SFlight} {n : Int} (hn : n ≤ 1048576) (hl : (s.Data.length : Int) ≤ maxI) (h : 0 ≤ n) : (laws_szFlight s n < 0 ∨ laws_szFlight s n = n - s.Data.length) := by
  unfold maxI at hl
  simp only [laws_szFlight, laws_szByteS, decide_eq_true_eq]
  rw [w64 (by omega)]
  by_cases q : n - s.Data.length < 0
  · left; simp [q]
  · right; simp [q]
theorem laws_szFlightS_spec {l : List SFlight} {n : Int} (hn : 0 ≤ n ∧ n ≤ 1048576) (hl : (l.length : Int) ≤ maxI) (hw : ∀ x ∈ l, (x.Data.length : Int) ≤ maxI) :
    ∃ r, laws_szFlightS l n = some r ∧ (r < 0 ∨ (r ≤ n ∧ (l.length : Int) ≤ n ∧ ∀ x ∈ l, (x.Data.length : Int) ≤ n)) := by
  unfold maxI at hl
  unfold laws_szFlightS
  rw [w64 (by omega)]
  by_cases h0 : n - l.length < 0
  · rw [if_pos (decide_eq_true h0)]; exact ⟨_, rfl, .inl (by omega)⟩
  · rw [if_neg (by simpa using h0)]
    obtain ⟨t, q1, q2⟩ := loop_rule (step := laws_szFlightS_s1 l) (fun i s => s.2 = (i : Int) ∧ 0 ≤ s.1 ∧ s.1 ≤ n ∧ ∀ j x, j < i → l[j]? = some x → (x.Data.length : Int) ≤ n)
        (fun t => (∃ r, t = .inl r ∧ r ≤ n ∧ ∀ x ∈ l, (x.Data.length : Int) ≤ n) ∨ t = .inr ()) l.length (by
      rintro i ⟨a, k⟩ hi ⟨hk, h1, h2, hj⟩
      simp only at hk h1 h2 hj
      subst hk
      simp only [laws_szFlightS_s1, decide_eq_true_eq]
      rcases Nat.lt_or_ge i l.length with h | h
      · obtain ⟨x, hx, hm⟩ := get_lt h
        rw [if_pos (by omega), getI_nat, hx, w64 (n := (i : Int) + 1) (by omega)]
        simp only [Option.bind_some]
        rcases laws_szFlight_spec (s := x) (n := a) (by omega) (hw x hm) h1 with e | e
        · right; rw [if_pos e]; exact ⟨_, rfl, .inr rfl⟩
        · rw [e]
          by_cases hc : a - x.Data.length < 0
          · right; rw [if_pos hc]; exact ⟨_, rfl, .inr rfl⟩
          · left
            rw [if_neg hc]
            refine ⟨h, _, rfl, by simp, by simp only []; omega, by simp only []; omega, fun j y hj' hy => ?_⟩
            rcases Nat.lt_or_ge j i with hji | hji
            · exact hj j y hji hy
            · obtain rfl : j = i := by omega
              rw [hx] at hy; obtain rfl := Option.some.inj hy; omega
      · right
        rw [if_neg (by omega)]
        refine ⟨_, rfl, .inl ⟨a, rfl, h2, fun x hx => ?_⟩⟩
        obtain ⟨j, hj'⟩ := List.getElem?_of_mem hx
        exact hj j x (by have := (List.getElem?_eq_some_iff.1 hj').1; omega) hj') (s := (n - l.length, 0)) ⟨rfl, by simp only []; omega, by simp only []; omega, fun j x hj => by omega⟩
    rw [q1]
    rcases q2 with ⟨r, rfl, h1, h2⟩ | rfl
    · exact ⟨r, rfl, .inr ⟨h1, by omega, h2⟩⟩
    · exact ⟨-1, rfl, .inl (by omega)⟩
def qNote (x y : SNote) : Bool := (x.Due == y.Due) && ((x.Report.Number == y.Report.Number) && (x.Report.Got == y.Report.Got))
theorem eqNote_eq {x y : SNote} : laws_eqNote x y = qNote x y := by
  unfold laws_eqNote laws_eqReport qNote
  by_cases h1 : x.Due = y.Due <;> by_cases h2 : x.Report.Number = y.Report.Number <;> by_cases h3 : x.Report.Got = y.Report.Got <;> simp [h1, h2, h3]
theorem qNote_self (x : SNote) : qNote x x = true := by simp [qNote]
theorem eqNoteS_self {l : List SNote} (hl : (l.length : Int) ≤ maxI) : laws_eqNoteS l l = some true := by
  unfold laws_eqNoteS
  rw [if_neg (by simp)]
  have e := same_loop qNote (l := l) (m := l) (step := laws_eqNoteS_s1 l l) rfl (fun i x y hx hy => by
    have hi : i < l.length := (List.getElem?_eq_some_iff.1 hx).1
    have hxy : x = y := by rw [hx] at hy; exact Option.some.inj hy
    subst hxy
    simp only [laws_eqNoteS_s1, decide_eq_true_eq]
    rw [if_pos (by omega), getI_nat, hx]
    simp only [Option.bind_some, eqNote_eq]
    split <;> rename_i hh <;> simp only [hh, if_true, if_false] <;> rfl) (by simp only [laws_eqNoteS_s1, decide_eq_true_eq]; rw [if_neg (by omega)]) hl
  rw [e, allSame_self fun x _ => qNote_self x]
theorem laws_toNoteS_eq {l : List SNote} (hl : (l.length : Int) ≤ 1048576) : laws_toNoteS l = some l := by
  unfold laws_toNoteS
  rw [if_pos (okMake_of (by omega) (by simp; omega) (by omega)), Int.toNat_natCast, copy_loop (fun a i x y hx hy ha => ?_) (fun a => ?_) (by unfold maxI; omega)]
  · rfl
  · have hi : i < l.length := (List.getElem?_eq_some_iff.1 hx).1
    simp only [laws_toNoteS_s1, decide_eq_true_eq]
    rw [if_pos (by omega), getI_nat, hx, getI_nat, hy, Int.toNat_natCast, hy]; rfl
  · simp only [laws_toNoteS_s1, decide_eq_true_eq]; rw [if_neg (by omega)]
structure SessOk (s : SSession) : Prop where
  send : SendOk s.Sender
  recv : RecvOk s.Receiver
  win : (s.Scheduler.Window.length : Int) ≤ 1048576
  fl : (s.Flights.length : Int) ≤ 1048576
  data : ∀ x ∈ s.Flights, (x.Data.length : Int) ≤ 1048576
  notes : (s.Notes.length : Int) ≤ 1048576
theorem laws_szSession_spec {s : SSession} {n : Int} (hn : 0 ≤ n ∧ n ≤ 1048576) (w : s.Wf) : ∃ r, laws_szSession s n = some r ∧ (r < 0 ∨ (0 ≤ r ∧ r ≤ n ∧ SessOk s)) := by
  obtain ⟨wS, wR, ⟨_, wW, _⟩, _, _, ⟨wF, wF2⟩, ⟨wN, _⟩⟩ := w
  unfold laws_szSession
  simp only [decide_eq_true_eq]
  by_cases k1 : laws_szSender s.Sender n < 0
  · rw [if_pos k1]; exact ⟨_, rfl, .inl (by omega)⟩
  · rw [if_neg k1]
    obtain ⟨o1, a1, a2⟩ := sendOk_of hn.2 wS hn.1 k1
    obtain ⟨r, h1, h2⟩ := laws_szReceiver_spec (n := laws_szSender s.Sender n) ⟨a1, by omega⟩ wR
    rw [h1]
    simp only [Option.bind_some]
    by_cases k2 : r < 0
    · rw [if_pos k2]; exact ⟨_, rfl, .inl (by omega)⟩
    · rw [if_neg k2]
      obtain ⟨b1, b2, o2⟩ := h2.resolve_left k2
      have eW : laws_szScheduler s.Scheduler r < 0 ∨ laws_szScheduler s.Scheduler r = r - s.Scheduler.Window.length := by
        simp only [laws_szScheduler, decide_eq_true_eq]
        rcases laws_szInt64S_spec (l := s.Scheduler.Window) (n := r) (by omega) wW b1 with e | e
        · left; rw [if_pos e]; omega
        · rw [e]; split
          · left; omega
          · right; rfl
      by_cases k3 : laws_szScheduler s.Scheduler r < 0
      · rw [if_pos k3]; exact ⟨_, rfl, .inl (by omega)⟩
      · rw [if_neg k3]
        have e3 := eW.resolve_left k3
        obtain ⟨q, h3, h4⟩ := laws_szFlightS_spec (l := s.Flights) (n := laws_szScheduler s.Scheduler r) ⟨by omega, by omega⟩ wF (fun x hx => (wF2 x hx).2.1)
        rw [h3]
        simp only [Option.bind_some]
        by_cases k4 : q < 0
        · rw [if_pos k4]; exact ⟨_, rfl, .inl (by omega)⟩
        · rw [if_neg k4]
          obtain ⟨c1, c2, c3⟩ := h4.resolve_left k4
          have eN : laws_szNoteS s.Notes q < 0 ∨ laws_szNoteS s.Notes q = q - s.Notes.length := by
            unfold maxI at wN
            simp only [laws_szNoteS, decide_eq_true_eq]
            rw [w64 (by omega)]
            split
            · left; omega
            · right; rfl
          by_cases k5 : laws_szNoteS s.Notes q < 0
          · rw [if_pos k5]; exact ⟨_, rfl, .inl (by omega)⟩
          · rw [if_neg k5]
            have e5 := eN.resolve_left k5
            exact ⟨_, rfl, .inr ⟨by omega, by omega, ⟨o1, o2, by omega, by omega, fun x hx => by have := c3 x hx; omega, by omega⟩⟩⟩
theorem laws_toSession_eq {s : SSession} (k : SessOk s) : laws_toSession s = some s := by
  unfold laws_toSession
  rw [sender_toSelf k.send, laws_toReceiver_eq k.recv, laws_toScheduler_eq (by have := k.win; omega), laws_toFlightS_eq k.fl k.data, laws_toNoteS_eq k.notes]; rfl
theorem sender_eqSelf {s : SSender} (k : SendOk s) : laws_eqSender s s = some true := by
  unfold laws_eqSender
  rw [laws_eqLap_self (small k.half) (small k.rest), laws_eqAnchor_self (small k.a), laws_eqAnchor_self (small k.b)]; simp
theorem laws_eqSession_self {s : SSession} (k : SessOk s) : laws_eqSession s s = some true := by
  unfold laws_eqSession
  rw [sender_eqSelf k.send, laws_eqReceiver_self k.recv, laws_eqScheduler_self (small k.win), eqFlightS_self (small k.fl) (fun x hx => small (k.data x hx)), eqNoteS_self (small k.notes)]; simp
theorem airFlights_same {s : SSession} (hl : (s.Flights.length : Int) ≤ maxI) {step1 step2 : Int → Option (Int ⊕ (Unit ⊕ Int))}
    (h1 : ∀ a, step1 a = if (decide (a < (s.Flights.length : Int))) = true then (getI s.Flights a).bind fun x86 =>
      (impl_first ([(impl_codeIf ((!(impl_inRange x86.Due 0 20010))) 3), (impl_codeIf ((decide ((x86.Data.length : Int) > 160))) 2)])).bind fun r87 =>
      if (r87 != 0) = true then some ((.inr ((.inr r87)))) else some ((.inl ((IntKind.i64.wrap (a + 1))))) else some ((.inr ((.inl (()))))))
    (h2 : ∀ a, step2 a = if (decide (a < (s.Flights.length : Int))) = true then (getI s.Flights a).bind fun x166 =>
      if (spec_l1In x166.Due 0 20010) = true then (getI s.Flights a).bind fun x167 =>
        if (decide ((x167.Data.length : Int) > 160)) = true then some ((.inr ((.inr 2)))) else some ((.inl ((IntKind.i64.wrap (a + 1)))))
      else some ((.inr ((.inr 3)))) else some ((.inr ((.inl (()))))) ) : ∃ t, loopO step1 0 = some t ∧ loopO step2 0 = some t := by
  unfold maxI at hl
  have hf : ∀ x y : Int, impl_first [x, y] = some (firstL [x, y]) := fun x y => impl_first_eq (by simp [maxI])
  obtain ⟨t, q1, q2, _⟩ := loop_same (step1 := step1) (step2 := step2) (fun i a => a = (i : Int)) (fun _ => True) s.Flights.length (by
    rintro i a hi rfl
    rw [h1, h2]
    simp only [decide_eq_true_eq, hf, impl_codeIf_eq, impl_inRange_eq, spec_l1In_eq]
    rcases Nat.lt_or_ge i s.Flights.length with h | h
    · obtain ⟨x, hx, hm⟩ := get_lt h
      rw [if_pos (by omega), if_pos (by omega), getI_nat, hx, w64 (by omega)]
      simp only [Option.bind_some, firstL]
      by_cases c1 : 0 ≤ x.Due ∧ x.Due ≤ 20010
      · by_cases c2 : (x.Data.length : Int) > 160
        · simp [c1, c2]
        · simp [c1, c2, h]
      · simp [c1]
    · rw [if_neg (by omega), if_neg (by omega)]
      exact ⟨rfl, .inr ⟨_, rfl, trivial⟩⟩) (s := 0) rfl
  exact ⟨t, q1, q2⟩
theorem airNotes_same {s : SSession} (hl : (s.Notes.length : Int) ≤ maxI) {step1 step2 : Int → Option (Int ⊕ (Unit ⊕ Int))}
    (h1 : ∀ a, step1 a = if (decide (a < (s.Notes.length : Int))) = true then (getI s.Notes a).bind fun x86 =>
      (impl_first ([(impl_codeIf ((!(impl_inRange x86.Due 0 20010))) 3), (impl_ReportFault x86.Report)])).bind fun r87 =>
      if (r87 != 0) = true then some ((.inr ((.inr r87)))) else some ((.inl ((IntKind.i64.wrap (a + 1))))) else some ((.inr ((.inl (()))))))
    (h2 : ∀ a, step2 a = if (decide (a < (s.Notes.length : Int))) = true then (getI s.Notes a).bind fun x166 =>
      if (spec_l1In x166.Due 0 20010) = true then (getI s.Notes a).bind fun x167 =>
        if ((spec_ReportFault x167.Report) != 0) = true then some ((.inr ((.inr ((spec_ReportFault x167.Report)))))) else some ((.inl ((IntKind.i64.wrap (a + 1)))))
      else some ((.inr ((.inr 3)))) else some ((.inr ((.inl (()))))) ) : ∃ t, loopO step1 0 = some t ∧ loopO step2 0 = some t := by
  unfold maxI at hl
  have hf : ∀ x y : Int, impl_first [x, y] = some (firstL [x, y]) := fun x y => impl_first_eq (by simp [maxI])
  obtain ⟨t, q1, q2, _⟩ := loop_same (step1 := step1) (step2 := step2) (fun i a => a = (i : Int)) (fun _ => True) s.Notes.length (by
    rintro i a hi rfl
    rw [h1, h2]
    simp only [decide_eq_true_eq, hf, impl_codeIf_eq, impl_inRange_eq, spec_l1In_eq]
    rcases Nat.lt_or_ge i s.Notes.length with h | h
    · obtain ⟨x, hx, hm⟩ := get_lt h
      have er : impl_ReportFault x.Report = spec_ReportFault x.Report := (reportFault_eq x.Report).2.trans (reportFault_eq x.Report).1.symm
      rw [if_pos (by omega), if_pos (by omega), getI_nat, hx, w64 (by omega)]
      simp only [Option.bind_some, firstL, er]
      by_cases c1 : 0 ≤ x.Due ∧ x.Due ≤ 20010
      · by_cases c2 : spec_ReportFault x.Report = 0
        · simp [c1, c2, h]
        · simp [c1, c2]
      · simp [c1]
    · rw [if_neg (by omega), if_neg (by omega)]
      exact ⟨rfl, .inr ⟨_, rfl, trivial⟩⟩) (s := 0) rfl
  exact ⟨t, q1, q2⟩
theorem session_same {s : SSession} (w : s.Wf) : ∃ c, spec_SessionFault s = some c ∧ impl_SessionFault s = some c := by
  obtain ⟨c1, p1, q1⟩ := sender_same w.1
  obtain ⟨c2, p2, q2⟩ := receiver_same w.2.1
  obtain ⟨e, hs⟩ := schedFault_same w.2.2.1.2.1
  obtain ⟨c3, p3⟩ := Option.isSome_iff_exists.1 hs
  rw [p3] at e
  have hfl : (s.Flights.length : Int) ≤ maxI := w.2.2.2.2.2.1.1
  have hnl : (s.Notes.length : Int) ≤ maxI := w.2.2.2.2.2.2.1
  obtain ⟨t1, f1, f2⟩ := airFlights_same hfl (fun _ => rfl) (fun _ => rfl) (step1 := impl_airFault_s1 s.Sender.Size s.Sender.Budget s.Sender.Refresh s.Sender.Number s.Sender.Lap.Size s.Sender.Lap.Half s.Sender.Lap.Rest s.Sender.A.Known s.Sender.A.Number s.Sender.A.Rung s.Sender.A.Gains s.Sender.B.Known s.Sender.B.Number s.Sender.B.Rung s.Sender.B.Gains s.Sender.SinceA s.Sender.SinceB s.Receiver.Size s.Receiver.Next s.Receiver.Held s.Receiver.A.Known s.Receiver.A.Number s.Receiver.A.Rung s.Receiver.A.Gains s.Receiver.B.Known s.Receiver.B.Number s.Receiver.B.Rung s.Receiver.B.Gains s.Receiver.Synth.Size s.Receiver.Synth.Head s.Receiver.Synth.Tail s.Receiver.Last s.Receiver.Lost s.Scheduler.Last s.Scheduler.Window s.Tick s.Wait s.Flights s.Notes (s.Flights.length : Int))
    (step2 := spec_SessionFault_s3 s.Sender.Size s.Sender.Budget s.Sender.Refresh s.Sender.Number s.Sender.Lap.Size s.Sender.Lap.Half s.Sender.Lap.Rest s.Sender.A.Known s.Sender.A.Number s.Sender.A.Rung s.Sender.A.Gains s.Sender.B.Known s.Sender.B.Number s.Sender.B.Rung s.Sender.B.Gains s.Sender.SinceA s.Sender.SinceB s.Receiver.Size s.Receiver.Next s.Receiver.Held s.Receiver.A.Known s.Receiver.A.Number s.Receiver.A.Rung s.Receiver.A.Gains s.Receiver.B.Known s.Receiver.B.Number s.Receiver.B.Rung s.Receiver.B.Gains s.Receiver.Synth.Size s.Receiver.Synth.Head s.Receiver.Synth.Tail s.Receiver.Last s.Receiver.Lost s.Scheduler.Last s.Scheduler.Window s.Tick s.Wait s.Flights s.Notes)
  obtain ⟨t2, n1, n2⟩ := airNotes_same hnl (fun _ => rfl) (fun _ => rfl) (step1 := impl_airFault_s2 s.Notes (s.Notes.length : Int))
    (step2 := spec_SessionFault_s4 s.Sender.Size s.Sender.Budget s.Sender.Refresh s.Sender.Number s.Sender.Lap.Size s.Sender.Lap.Half s.Sender.Lap.Rest s.Sender.A.Known s.Sender.A.Number s.Sender.A.Rung s.Sender.A.Gains s.Sender.B.Known s.Sender.B.Number s.Sender.B.Rung s.Sender.B.Gains s.Sender.SinceA s.Sender.SinceB s.Receiver.Size s.Receiver.Next s.Receiver.Held s.Receiver.A.Known s.Receiver.A.Number s.Receiver.A.Rung s.Receiver.A.Gains s.Receiver.B.Known s.Receiver.B.Number s.Receiver.B.Rung s.Receiver.B.Gains s.Receiver.Synth.Size s.Receiver.Synth.Head s.Receiver.Synth.Tail s.Receiver.Last s.Receiver.Lost s.Scheduler.Last s.Scheduler.Window s.Tick s.Wait s.Flights s.Notes)
  obtain ⟨a, air, airS⟩ : ∃ a, impl_airFault s = some a ∧ (some t1).bind (fun t => (Sum.elim (fun y168 => (some t2).bind fun t => (Sum.elim (fun y253 => some 0) (fun y254 => some y254)) t) (fun y255 => some y255)) t) = some a := by
    unfold impl_airFault
    rw [f1, n1]
    cases t1 <;> cases t2 <;> exact ⟨_, rfl, rfl⟩
  have eS : ∀ t : SSender, SSender.mk t.Size t.Budget t.Refresh t.Number (SLap.mk t.Lap.Size t.Lap.Half t.Lap.Rest) (SAnchor.mk t.A.Known t.A.Number t.A.Rung t.A.Gains) (SAnchor.mk t.B.Known t.B.Number t.B.Rung t.B.Gains) t.SinceA t.SinceB = t := fun _ => rfl
  have eR : ∀ t : SReceiver, SReceiver.mk t.Size t.Next t.Held (SAnchor.mk t.A.Known t.A.Number t.A.Rung t.A.Gains) (SAnchor.mk t.B.Known t.B.Number t.B.Rung t.B.Gains) (SSynth.mk t.Synth.Size t.Synth.Head t.Synth.Tail) t.Last t.Lost = t := fun _ => rfl
  have eC : ∀ t : SScheduler, SScheduler.mk t.Last t.Window = t := fun _ => rfl
  have eZ : SSession.mk s.Sender s.Receiver s.Scheduler s.Tick s.Wait s.Flights s.Notes = s := rfl
  have hf : ∀ a b c d e f g : Int, impl_first [a, b, c, d, e, f, g] = some (firstL [a, b, c, d, e, f, g]) := fun a b c d e f g => impl_first_eq (by simp [maxI])
  refine ⟨firstL [c1, c2, c3, if s.Sender.Size = s.Receiver.Size then 0 else 1, if (0 ≤ s.Tick ∧ s.Tick ≤ 20000) ∧ 0 ≤ s.Wait ∧ s.Wait ≤ 6 then 0 else 3, if (s.Flights.length : Int) > 40 ∨ (s.Notes.length : Int) > 20 then 2 else 0, a], ?_, ?_⟩
  · unfold spec_SessionFault
    rw [p1]
    simp only [Option.bind_some, bne_iff_ne, ne_eq]
    by_cases h1 : c1 = 0
    · rw [if_neg (by simp [h1]), p2]
      simp only [Option.bind_some]
      by_cases h2 : c2 = 0
      · rw [if_neg (by simp [h2]), p3]
        simp only [Option.bind_some]
        by_cases h3 : c3 = 0
        · rw [if_neg (by simp [h3])]
          by_cases h4 : s.Sender.Size = s.Receiver.Size
          · rw [if_neg (by simp [h4])]
            simp only [spec_SessionFault_u1, spec_SessionFault_u2, spec_l1In_eq, decide_eq_true_eq]
            by_cases h5 : 0 ≤ s.Tick ∧ s.Tick ≤ 20000
            · by_cases h6 : 0 ≤ s.Wait ∧ s.Wait ≤ 6
              · rw [if_neg (by simp [h5, h6])]
                by_cases h7 : (s.Flights.length : Int) > 40
                · rw [if_pos (by simp [h7])]
                  simp [firstL, h1, h2, h3, h4, h5, h6, h7]
                · by_cases h8 : (s.Notes.length : Int) > 20
                  · rw [if_pos (by simp [h7, h8])]
                    simp [firstL, h1, h2, h3, h4, h5, h6, h7, h8]
                  · rw [if_neg (by simp [h7, h8]), f2, n2, airS]
                    simp [firstL, h1, h2, h3, h4, h5, h6, h7, h8]
              · rw [if_pos (by simp [h5, h6])]
                simp [firstL, h1, h2, h3, h4, h5, h6]
            · rw [if_pos (by simp [h5])]
              simp [firstL, h1, h2, h3, h4, h5]
          · rw [if_pos (by simp [h4])]
            simp [firstL, h1, h2, h3, h4]
        · rw [if_pos h3]; simp [firstL, h1, h2, h3]
      · rw [if_pos h2]; simp [firstL, h1, h2]
    · rw [if_pos h1]; simp [firstL, h1]
  · unfold impl_SessionFault
    simp only [impl_SessionFault_u1, eS, eR, eC, eZ, q1, q2, e, air, Option.bind_some, hf, impl_codeIf_eq, impl_inRange_eq, decide_eq_true_eq, bne_iff_ne, ne_eq, ite_not]
    by_cases h5 : 0 ≤ s.Tick ∧ s.Tick ≤ 20000 <;> by_cases h6 : 0 ≤ s.Wait ∧ s.Wait ≤ 6 <;> by_cases h7 : (s.Flights.length : Int) > 40 <;> by_cases h8 : (s.Notes.length : Int) > 20 <;> simp [h5, h6, h7, h8]
--REST0
--REST0
theorem pure (s : SSession) (w : s.Wf) : laws_FnExactSessionFault s = some true := by
  unfold laws_FnExactSessionFault
  obtain ⟨r1, h1, k1⟩ := laws_szSession_spec (n := 1048576) ⟨by omega, by omega⟩ w
  rw [h1]
  simp only [Option.bind_some, decide_eq_true_eq]
  by_cases c1 : r1 < 0
  · rw [if_pos c1]
  · rw [if_neg c1]
    obtain ⟨g1, g2, ka⟩ := k1.resolve_left c1
    obtain ⟨c, p, q⟩ := session_same w
    simp only [laws_toSession_eq ka, Option.bind_some, p, q, laws_eqSession_self ka]
    simp
end FnExactSessionFault
end Go.Proofs.YtclhghlpokdiiaaGreat.Wm
