/- What FnExactHearPacket comes to on plain values: true. -/
import Derived.Test.YtpbonfgmiffomaaFnFnExactHearPacket
set_option linter.unusedSimpArgs false
set_option linter.unusedVariables false
set_option maxRecDepth 100000
namespace Go.Proofs.Ytpbonfgmiffomaa.Wm
open Go
namespace FnExactHearPacket
theorem spec_l1In_eq {a b c : Int} : spec_l1In a b c = decide (b ≤ a ∧ a ≤ c) := by
  simp only [spec_l1In, spec_l1In_u1, decide_eq_true_eq]
  by_cases h1 : b ≤ a <;> by_cases h2 : a ≤ c <;> simp [h1, h2]
theorem impl_inRange_eq {a b c : Int} : impl_inRange a b c = decide (b ≤ a ∧ a ≤ c) := by
  simp only [impl_inRange, impl_inRange_u1, decide_eq_true_eq]
  by_cases h1 : b ≤ a <;> by_cases h2 : a ≤ c <;> simp [h1, h2]
theorem spec_l1All_eq {l : List Int} {a b : Int} (hl : (l.length : Int) ≤ maxI) : spec_l1All l a b = some (decide (∀ x ∈ l, a ≤ x ∧ x ≤ b)) := by
  unfold maxI at hl
  unfold spec_l1All
  obtain ⟨t, h1, h2⟩ := loop_rule (step := spec_l1All_s1 l a b) (fun i s => s = (i : Int) ∧ ∀ j x, j < i → l[j]? = some x → a ≤ x ∧ x ≤ b)
      (fun t => (t = .inl () ∧ ∀ x ∈ l, a ≤ x ∧ x ≤ b) ∨ (t = .inr () ∧ ∃ x ∈ l, ¬ (a ≤ x ∧ x ≤ b))) l.length (by
    rintro i s hi ⟨rfl, hj⟩
    simp only [spec_l1All_s1, decide_eq_true_eq]
    rcases Nat.lt_or_ge i l.length with h | h
    · obtain ⟨x, hx, hm⟩ := get_lt h
      rw [if_pos (by omega), getI_nat, hx, w64 (by omega)]
      simp only [Option.bind_some, spec_l1In_eq, decide_eq_true_eq]
      by_cases hp : a ≤ x ∧ x ≤ b
      · left
        rw [if_pos hp]
        refine ⟨h, _, rfl, by simp, fun j y hj' hy => ?_⟩
        rcases Nat.lt_or_ge j i with hji | hji
        · exact hj j y hji hy
        · obtain rfl : j = i := by omega
          rw [hx] at hy; obtain rfl := Option.some.inj hy; exact hp
      · right
        rw [if_neg hp]
        exact ⟨_, rfl, .inr ⟨rfl, x, hm, hp⟩⟩
    · right
      rw [if_neg (by omega)]
      refine ⟨_, rfl, .inl ⟨rfl, fun x hx => ?_⟩⟩
      obtain ⟨j, hj'⟩ := List.getElem?_of_mem hx
      exact hj j x (by have := (List.getElem?_eq_some_iff.1 hj').1; omega) hj') (s := 0) ⟨rfl, fun j x hj => by omega⟩
  rw [h1]
  rcases h2 with ⟨rfl, h⟩ | ⟨rfl, x, hx, h⟩
  · simp only [Option.bind_some, Sum.elim_inl, Option.some.injEq]; exact (decide_eq_true h).symm
  · simp only [Option.bind_some, Sum.elim_inr, Option.some.injEq]; exact (decide_eq_false fun hh => h (hh x hx)).symm
def firstL : List Int → Int
  | [] => 0
  | x :: l => if x ≠ 0 then x else firstL l
theorem firstL_skip : ∀ {i : Nat} {l : List Int}, (∀ j x, j < i → l[j]? = some x → x = 0) → firstL l = firstL (l.drop i)
  | 0, l, h => by simp
  | i + 1, [], h => by simp
  | i + 1, x :: l, h => by
    have := h 0 x (by omega) rfl
    subst this
    simp only [firstL, ne_eq, not_true, if_false, List.drop_succ_cons]
    exact firstL_skip fun j x hj hx => h (j + 1) x (by omega) (by simpa using hx)
theorem impl_first_eq {l : List Int} (hl : (l.length : Int) ≤ maxI) : impl_first l = some (firstL l) := by
  unfold maxI at hl
  unfold impl_first
  obtain ⟨t, h1, h2⟩ := loop_rule (step := impl_first_s1 l (l.length : Int)) (fun i s => s = (i : Int) ∧ ∀ j x, j < i → l[j]? = some x → x = 0)
      (fun t => (t = .inl () ∧ firstL l = 0) ∨ (t = .inr (firstL l))) l.length (by
    rintro i s hi ⟨rfl, hj⟩
    simp only [impl_first_s1, decide_eq_true_eq]
    rcases Nat.lt_or_ge i l.length with h | h
    · obtain ⟨x, hx, hm⟩ := get_lt h
      rw [if_pos (by omega), getI_nat, hx, w64 (by omega)]
      simp only [Option.bind_some, bne_iff_ne, ne_eq]
      by_cases hp : x = 0
      · left
        rw [if_neg (by simp [hp])]
        refine ⟨h, _, rfl, by simp, fun j y hj' hy => ?_⟩
        rcases Nat.lt_or_ge j i with hji | hji
        · exact hj j y hji hy
        · obtain rfl : j = i := by omega
          rw [hx] at hy; obtain rfl := Option.some.inj hy; exact hp
      · right
        rw [if_pos hp]
        refine ⟨_, rfl, .inr ?_⟩
        rw [firstL_skip hj, List.drop_eq_getElem_cons h, firstL]
        have : l[i] = x := by rw [List.getElem?_eq_getElem h] at hx; exact Option.some.inj hx
        rw [this, if_pos hp]
    · right
      rw [if_neg (by omega)]
      refine ⟨_, rfl, .inl ⟨rfl, ?_⟩⟩
      rw [firstL_skip hj, List.drop_eq_nil_of_le h]; rfl) (s := 0) ⟨rfl, fun j x hj => by omega⟩
  rw [h1]
  rcases h2 with ⟨rfl, h⟩ | rfl
  · simp [h]
  · simp
theorem impl_codeIf_eq {b : Bool} {c : Int} : impl_codeIf b c = if b = true then c else 0 := rfl
theorem laws_toInt64S_eq {l : List Int} (hl : (l.length : Int) ≤ 35184372088832) : laws_toInt64S l = some l := by
  unfold laws_toInt64S
  rw [if_pos (okMake_8 (by omega) hl), Int.toNat_natCast]
  obtain ⟨t, h1, rfl⟩ := loop_rule (step := laws_toInt64S_s1 l) (fun i s => s.2 = i ∧ s.1.length = l.length ∧ ∀ j, j < i → s.1[j]? = l[j]?) (fun t => t = l) l.length (by
    rintro i ⟨a, k⟩ hi ⟨hk, ha, hj⟩
    simp only at hk ha hj
    subst hk
    simp only [laws_toInt64S_s1, decide_eq_true_eq]
    rcases Nat.lt_or_ge i l.length with h | h
    · left
      obtain ⟨x, hx, _⟩ := get_lt h
      obtain ⟨y, hy, _⟩ := get_lt (l := a) (i := i) (by omega)
      rw [if_pos (by omega), getI_nat, hx, getI_nat, hy, Int.toNat_natCast, hy, w64 (by omega)]
      refine ⟨h, _, rfl, by simp, by simp [ha], fun j hj' => ?_⟩
      simp only [List.getElem?_set]
      split
      · rename_i e; subst e; rw [if_pos (by omega), hx]
      · exact hj j (by omega)
    · right
      rw [if_neg (by omega)]
      exact ⟨a, rfl, list_ext ha fun j hj' => hj j (by omega)⟩) (s := (List.replicate l.length 0, 0)) ⟨rfl, by simp, fun j hj => by omega⟩
  rw [h1]; rfl
theorem laws_eqInt64S_self {l : List Int} (hl : (l.length : Int) ≤ maxI) : laws_eqInt64S l l = some true := by
  unfold maxI at hl
  unfold laws_eqInt64S
  rw [if_neg (by simp)]
  obtain ⟨t, h1, rfl⟩ := loop_rule (step := laws_eqInt64S_s1 l l) (fun i s => s = (i : Int)) (fun t => t = .inl ()) l.length (by
    rintro i s hi rfl
    simp only [laws_eqInt64S_s1, decide_eq_true_eq]
    rcases Nat.lt_or_ge i l.length with h | h
    · left
      obtain ⟨x, hx, _⟩ := get_lt h
      rw [if_pos (by omega), getI_nat, hx, w64 (by omega)]
      simp only [Option.bind_some, bne_self_eq_false, Bool.false_eq_true, if_false]
      exact ⟨h, _, rfl, by simp⟩
    · right
      rw [if_neg (by omega)]
      exact ⟨_, rfl, rfl⟩) (s := 0) rfl
  rw [h1]; rfl
theorem l1All_all {l : List Int} {a b : Int} (hl : (l.length : Int) ≤ maxI) : spec_l1All l a b = some (l.all fun x => decide (a ≤ x ∧ x ≤ b)) := by
  rw [spec_l1All_eq hl]
  congr 1
  rw [Bool.eq_iff_iff]
  simp
theorem size_same {n : Int} : impl_SizeFault n = spec_SizeFault n := rfl
theorem size_cases {n : Int} : spec_SizeFault n = 0 ∨ spec_SizeFault n = 3 := by
  unfold spec_SizeFault
  simp only []
  split
  · exact .inr rfl
  · exact .inl rfl
theorem allWithin_eq {l : List Int} {k : Int} (hk : 0 ≤ k ∧ k ≤ 1152921504606846976) (hl : (l.length : Int) ≤ maxI) : impl_allWithin l k = some (l.all fun x => decide (-k ≤ x ∧ x ≤ k)) := by
  unfold impl_allWithin slices_ContainsFunc_int64_impl_allWithin_1 slices_IndexFunc_int64_impl_allWithin_1
  obtain ⟨r, h1, h2⟩ := find_loop (l := l) (fun x => impl_allWithin_1 x k) (step := slices_IndexFunc_int64_impl_allWithin_1_s1 l k (l.length : Int)) (fun i x hx => by
      have hi : i < l.length := (List.getElem?_eq_some_iff.1 hx).1
      simp only [slices_IndexFunc_int64_impl_allWithin_1_s1, decide_eq_true_eq]
      rw [if_pos (by omega), getI_nat, hx]
      simp only [Option.bind_some]
      split <;> rfl) (by
      simp only [slices_IndexFunc_int64_impl_allWithin_1_s1, decide_eq_true_eq]
      rw [if_neg (by omega)]) hl
  rw [h1]
  simp only [Option.bind_some, h2, List.not_any_eq_all_not]
  congr 2
  funext x
  simp only [impl_allWithin_1, impl_within, impl_inRange_eq, Bool.not_not]
  rw [w64 (by omega)]
  simp
theorem anchorGains_eq {l : List Int} (hl : (l.length : Int) ≤ maxI) : slices_ContainsFunc_int64_impl_AnchorFault_1 l = some (!l.all fun x => decide (0 ≤ x ∧ x ≤ 65535)) := by
  unfold slices_ContainsFunc_int64_impl_AnchorFault_1 slices_IndexFunc_int64_impl_AnchorFault_1
  obtain ⟨r, h1, h2⟩ := find_loop (l := l) (fun x => impl_AnchorFault_1 x) (step := slices_IndexFunc_int64_impl_AnchorFault_1_s1 l (l.length : Int)) (fun i x hx => by
      have hi : i < l.length := (List.getElem?_eq_some_iff.1 hx).1
      simp only [slices_IndexFunc_int64_impl_AnchorFault_1_s1, decide_eq_true_eq]
      rw [if_pos (by omega), getI_nat, hx]
      simp only [Option.bind_some]
      split <;> rfl) (by
      simp only [slices_IndexFunc_int64_impl_AnchorFault_1_s1, decide_eq_true_eq]
      rw [if_neg (by omega)]) hl
  rw [h1]
  simp only [Option.bind_some, h2, List.not_all_eq_any_not]
  congr 2
  funext x
  simp only [impl_AnchorFault_1, impl_inRange_eq]
theorem anchor_same {s : SAnchor} (h1 : (s.Gains.length : Int) ≤ maxI) : ∃ c, spec_AnchorFault s = some c ∧ impl_AnchorFault s = some c := by
  unfold spec_AnchorFault impl_AnchorFault
  have ha : ∀ a b c : Int, impl_first [a, b, c] = some (firstL [a, b, c]) := fun a b c => impl_first_eq (by simp [maxI])
  have hb : ((if decide ((s.Gains.length : Int) < 1) = true then true else decide ((s.Gains.length : Int) > 2)) : Bool) = !decide (1 ≤ (s.Gains.length : Int) ∧ (s.Gains.length : Int) ≤ 2) := by
    by_cases q1 : (s.Gains.length : Int) < 1
    · rw [if_pos (decide_eq_true q1), decide_eq_false (by omega)]; rfl
    · rw [if_neg (by simpa using q1)]
      by_cases q2 : (s.Gains.length : Int) > 2
      · rw [decide_eq_true q2, decide_eq_false (by omega)]; rfl
      · rw [decide_eq_false q2, decide_eq_true (by omega)]; rfl
  simp only [spec_AnchorFault_u1, spec_AnchorFault_u2, spec_AnchorFault_u3, impl_AnchorFault_u1, impl_AnchorFault_u2, anchorGains_eq h1, l1All_all h1, impl_isNumber, impl_isRung, spec_l14Number, spec_l9Rung, spec_l1In_eq, impl_inRange_eq, impl_codeIf_eq, Option.bind_some, hb, ha]
  generalize (s.Gains.all fun x => decide (0 ≤ x ∧ x ≤ 65535)) = A
  generalize decide (1 ≤ (s.Gains.length : Int) ∧ (s.Gains.length : Int) ≤ 2) = b1
  generalize decide (0 ≤ s.Number ∧ s.Number ≤ 9999) = b2
  generalize decide (0 ≤ s.Rung ∧ s.Rung ≤ 47) = b3
  cases s.Known
  · by_cases b4 : 0 < s.Gains.length <;> by_cases b5 : s.Number = 0 <;> by_cases b6 : s.Rung = 0 <;> simp [b4, b5, b6]
  · cases A <;> cases b1 <;> cases b2 <;> cases b3 <;> exact ⟨_, rfl, rfl⟩
theorem eq_any {l m : List Int} {step : Int → Option (Int ⊕ (Unit ⊕ Unit))} (h1 : ∀ (i : Nat) (x y : Int), l[i]? = some x → m[i]? = some y → step i = some (if (x == y) = true then .inl (IntKind.i64.wrap ((i : Int) + 1)) else .inr (.inr ())))
    (h2 : step (l.length : Int) = some (.inr (.inl ()))) (hl : (l.length : Int) ≤ maxI) :
    (if ((l.length : Int) != (m.length : Int)) = true then some false else (loopO step 0).bind fun t => (Sum.elim (fun _ => some true) (fun _ => some false)) t) = some (decide (l = m)) := by
  by_cases hlen : l.length = m.length
  · rw [if_neg (by simp [hlen]), same_loop (fun x y => x == y) hlen h1 h2 hl, allSame_eq hlen]
  · rw [if_pos (by simp; omega), decide_eq_false (fun e => hlen (by rw [e]))]
theorem eqByteS_eq {l m : List Int} (hl : (l.length : Int) ≤ maxI) : laws_eqByteS l m = some (decide (l = m)) := by
  unfold laws_eqByteS
  refine eq_any (fun i x y hx hy => ?_) ?_ hl
  · have hi : i < l.length := (List.getElem?_eq_some_iff.1 hx).1
    simp only [laws_eqByteS_s1, decide_eq_true_eq]
    rw [if_pos (by omega), getI_nat, hx, getI_nat, hy]
    by_cases e : x = y <;> simp [e]
  · simp only [laws_eqByteS_s1, decide_eq_true_eq]; rw [if_neg (by omega)]
def qHeld (x y : SHeld) : Bool := (x.Number == y.Number) && ((x.Side == y.Side) && decide (x.Data = y.Data))
theorem eqHeld_eq {x y : SHeld} (h : (x.Data.length : Int) ≤ maxI) : laws_eqHeld x y = some (qHeld x y) := by
  unfold laws_eqHeld qHeld
  simp only [eqByteS_eq h, Option.bind_some]
  by_cases h1 : x.Number = y.Number <;> by_cases h2 : x.Side = y.Side <;> by_cases h3 : x.Data = y.Data <;> simp [h1, h2, h3]
theorem qHeld_self (x : SHeld) : qHeld x x = true := by simp [qHeld]
theorem eqHeldS_self {l : List SHeld} (hl : (l.length : Int) ≤ maxI) (hw : ∀ x ∈ l, (x.Data.length : Int) ≤ maxI) : laws_eqHeldS l l = some true := by
  unfold laws_eqHeldS
  rw [if_neg (by simp)]
  have e := same_loop qHeld (l := l) (m := l) (step := laws_eqHeldS_s1 l l) rfl (fun i x y hx hy => by
    have hi : i < l.length := (List.getElem?_eq_some_iff.1 hx).1
    have hxy : x = y := by rw [hx] at hy; exact Option.some.inj hy
    subst hxy
    simp only [laws_eqHeldS_s1, decide_eq_true_eq]
    rw [if_pos (by omega), getI_nat, hx]
    simp only [Option.bind_some, eqHeld_eq (hw x (List.mem_of_getElem? hx))]
    cases qHeld x x <;> rfl) (by simp only [laws_eqHeldS_s1, decide_eq_true_eq]; rw [if_neg (by omega)]) hl
  rw [e, allSame_self fun x _ => qHeld_self x]
theorem laws_toByteS_eq {l : List Int} (hl : (l.length : Int) ≤ 1048576) : laws_toByteS l = some l := by
  unfold laws_toByteS
  rw [if_pos (okMake_of (by omega) (by simp; omega) (by omega)), Int.toNat_natCast, copy_loop (fun a i x y hx hy ha => ?_) (fun a => ?_) (by unfold maxI; omega)]
  · rfl
  · have hi : i < l.length := (List.getElem?_eq_some_iff.1 hx).1
    simp only [laws_toByteS_s1, decide_eq_true_eq]
    rw [if_pos (by omega), getI_nat, hx, getI_nat, hy, Int.toNat_natCast, hy]; rfl
  · simp only [laws_toByteS_s1, decide_eq_true_eq]; rw [if_neg (by omega)]
theorem laws_toHeld_eq {s : SHeld} (hl : (s.Data.length : Int) ≤ 1048576) : laws_toHeld s = some s := by
  unfold laws_toHeld; rw [laws_toByteS_eq hl]; rfl
theorem laws_toHeldS_eq {l : List SHeld} (hl : (l.length : Int) ≤ 1048576) (hw : ∀ x ∈ l, (x.Data.length : Int) ≤ 1048576) : laws_toHeldS l = some l := by
  unfold laws_toHeldS
  rw [if_pos (okMake_of (by omega) (by simp; omega) (by omega)), Int.toNat_natCast, copy_loop (fun a i x y hx hy ha => ?_) (fun a => ?_) (by unfold maxI; omega)]
  · rfl
  · have hi : i < l.length := (List.getElem?_eq_some_iff.1 hx).1
    simp only [laws_toHeldS_s1, decide_eq_true_eq]
    rw [if_pos (by omega), getI_nat, hx]
    simp only [Option.bind_some, laws_toHeld_eq (hw x (List.mem_of_getElem? hx))]
    rw [getI_nat, hy, Int.toNat_natCast, hy]; rfl
  · simp only [laws_toHeldS_s1, decide_eq_true_eq]; rw [if_neg (by omega)]
theorem laws_toAnchor_eq {s : SAnchor} (h1 : (s.Gains.length : Int) ≤ 35184372088832) : laws_toAnchor s = some s := by
  unfold laws_toAnchor
  rw [laws_toInt64S_eq h1]; rfl
theorem laws_toSynth_eq {s : SSynth} (h1 : (s.Head.length : Int) ≤ 35184372088832) (h2 : (s.Tail.length : Int) ≤ 35184372088832) : laws_toSynth s = some s := by
  unfold laws_toSynth
  rw [laws_toInt64S_eq h1, laws_toInt64S_eq h2]; rfl
theorem laws_szInt64S_spec {l : List Int} {n : Int} (hn : n ≤ 1048576) (hl : (l.length : Int) ≤ maxI) (h : 0 ≤ n) : (laws_szInt64S l n < 0 ∨ laws_szInt64S l n = n - l.length) := by
  unfold maxI at hl
  simp only [laws_szInt64S, decide_eq_true_eq]
  rw [w64 (by omega)]
  split
  · left; omega
  · right; rfl
theorem laws_szAnchor_spec {s : SAnchor} {n : Int} (hn : n ≤ 1048576) (h1 : (s.Gains.length : Int) ≤ maxI) (h : 0 ≤ n) : laws_szAnchor s n < 0 ∨ laws_szAnchor s n = n - s.Gains.length := by
  simp only [laws_szAnchor, decide_eq_true_eq]
  rcases laws_szInt64S_spec hn h1 h with e | e
  · left; rw [if_pos e]; omega
  · rw [e]; split
    · left; omega
    · right; rfl
theorem laws_szSynth_spec {s : SSynth} {n : Int} (hn : n ≤ 1048576) (h1 : (s.Head.length : Int) ≤ maxI) (h2 : (s.Tail.length : Int) ≤ maxI) (h : 0 ≤ n) : laws_szSynth s n < 0 ∨ laws_szSynth s n = n - s.Head.length - s.Tail.length := by
  simp only [laws_szSynth, decide_eq_true_eq]
  split
  · left; omega
  · rename_i q
    rcases laws_szInt64S_spec hn h1 h with e | e
    · omega
    · rw [e] at q ⊢
      rcases laws_szInt64S_spec (n := n - s.Head.length) (by omega) h2 (by omega) with e2 | e2
      · left; rw [if_pos e2]; omega
      · rw [e2]; split
        · left; omega
        · right; rfl
theorem laws_szHeld_spec {s : SHeld} {n : Int} (hn : n ≤ 1048576) (hl : (s.Data.length : Int) ≤ maxI) (h : 0 ≤ n) : (laws_szHeld s n < 0 ∨ laws_szHeld s n = n - s.Data.length) := by
  unfold maxI at hl
  simp only [laws_szHeld, laws_szByteS, decide_eq_true_eq]
  rw [w64 (by omega)]
  by_cases q : n - s.Data.length < 0
  · left; simp [q]
  · right; simp [q]
theorem laws_szHeldS_spec {l : List SHeld} {n : Int} (hn : 0 ≤ n ∧ n ≤ 1048576) (hl : (l.length : Int) ≤ maxI) (hw : ∀ x ∈ l, (x.Data.length : Int) ≤ maxI) :
    ∃ r, laws_szHeldS l n = some r ∧ (r < 0 ∨ (r ≤ n ∧ (l.length : Int) ≤ n ∧ ∀ x ∈ l, (x.Data.length : Int) ≤ n)) := by
  unfold maxI at hl
  unfold laws_szHeldS
  rw [w64 (by omega)]
  by_cases h0 : n - l.length < 0
  · rw [if_pos (decide_eq_true h0)]; exact ⟨_, rfl, .inl (by omega)⟩
  · rw [if_neg (by simpa using h0)]
    obtain ⟨t, q1, q2⟩ := loop_rule (step := laws_szHeldS_s1 l) (fun i s => s.2 = (i : Int) ∧ 0 ≤ s.1 ∧ s.1 ≤ n ∧ ∀ j x, j < i → l[j]? = some x → (x.Data.length : Int) ≤ n)
        (fun t => (∃ r, t = .inl r ∧ r ≤ n ∧ ∀ x ∈ l, (x.Data.length : Int) ≤ n) ∨ t = .inr ()) l.length (by
      rintro i ⟨a, k⟩ hi ⟨hk, h1, h2, hj⟩
      simp only at hk h1 h2 hj
      subst hk
      simp only [laws_szHeldS_s1, decide_eq_true_eq]
      rcases Nat.lt_or_ge i l.length with h | h
      · obtain ⟨x, hx, hm⟩ := get_lt h
        rw [if_pos (by omega), getI_nat, hx, w64 (n := (i : Int) + 1) (by omega)]
        simp only [Option.bind_some]
        rcases laws_szHeld_spec (s := x) (n := a) (by omega) (hw x hm) h1 with e | e
        · right; rw [if_pos e]; exact ⟨_, rfl, .inr rfl⟩
        · rw [e]
          by_cases hc : a - x.Data.length < 0
          · right; rw [if_pos hc]; exact ⟨_, rfl, .inr rfl⟩
          · left
            rw [if_neg hc]
            refine ⟨h, _, rfl, by simp, by simp only []; omega, by simp only []; omega, fun j y hj' hy => ?_⟩
            rcases Nat.lt_or_ge j i with hji | hji
            · exact hj j y hji hy
            · obtain rfl : j = i := by omega
              rw [hx] at hy; obtain rfl := Option.some.inj hy; omega
      · right
        rw [if_neg (by omega)]
        refine ⟨_, rfl, .inl ⟨a, rfl, h2, fun x hx => ?_⟩⟩
        obtain ⟨j, hj'⟩ := List.getElem?_of_mem hx
        exact hj j x (by have := (List.getElem?_eq_some_iff.1 hj').1; omega) hj') (s := (n - l.length, 0)) ⟨rfl, by simp only []; omega, by simp only []; omega, fun j x hj => by omega⟩
    rw [q1]
    rcases q2 with ⟨r, rfl, h1, h2⟩ | rfl
    · exact ⟨r, rfl, .inr ⟨h1, by omega, h2⟩⟩
    · exact ⟨-1, rfl, .inl (by omega)⟩
structure RecvOk (s : SReceiver) : Prop where
  held : (s.Held.length : Int) ≤ 1048576
  data : ∀ x ∈ s.Held, (x.Data.length : Int) ≤ 1048576
  a : (s.A.Gains.length : Int) ≤ 1048576
  b : (s.B.Gains.length : Int) ≤ 1048576
  head : (s.Synth.Head.length : Int) ≤ 1048576
  tail : (s.Synth.Tail.length : Int) ≤ 1048576
  last : (s.Last.length : Int) ≤ 1048576
theorem laws_szReceiver_spec {s : SReceiver} {n : Int} (hn : 0 ≤ n ∧ n ≤ 1048576) (w : s.Wf) : ∃ r, laws_szReceiver s n = some r ∧ (r < 0 ∨ (0 ≤ r ∧ r ≤ n ∧ RecvOk s)) := by
  obtain ⟨_, _, ⟨w0, w1⟩, ⟨_, _, _, w3, _⟩, ⟨_, _, _, w4, _⟩, ⟨_, ⟨w5, _⟩, ⟨w6, _⟩⟩, ⟨w7, _⟩, _⟩ := w
  obtain ⟨r, h1, h2⟩ := laws_szHeldS_spec hn w0 (fun x hx => (w1 x hx).2.2.1)
  unfold laws_szReceiver
  rw [h1]
  simp only [Option.bind_some, decide_eq_true_eq]
  by_cases k1 : r < 0
  · rw [if_pos k1]; exact ⟨_, rfl, .inl (by omega)⟩
  · rw [if_neg k1]
    obtain ⟨g1, g2, g3⟩ := h2.resolve_left k1
    rcases laws_szAnchor_spec (s := s.A) (n := r) (by omega) w3 (by omega) with e | e
    · rw [if_pos e]; exact ⟨_, rfl, .inl (by omega)⟩
    · rw [e]
      by_cases k2 : r - s.A.Gains.length < 0
      · rw [if_pos k2]; exact ⟨_, rfl, .inl (by omega)⟩
      · rw [if_neg k2]
        rcases laws_szAnchor_spec (s := s.B) (n := r - s.A.Gains.length) (by omega) w4 (by omega) with e | e
        · rw [if_pos e]; exact ⟨_, rfl, .inl (by omega)⟩
        · rw [e]
          by_cases k3 : r - s.A.Gains.length - s.B.Gains.length < 0
          · rw [if_pos k3]; exact ⟨_, rfl, .inl (by omega)⟩
          · rw [if_neg k3]
            rcases laws_szSynth_spec (s := s.Synth) (n := r - s.A.Gains.length - s.B.Gains.length) (by omega) w5 w6 (by omega) with e | e
            · rw [if_pos e]; exact ⟨_, rfl, .inl (by omega)⟩
            · rw [e]
              by_cases k4 : r - s.A.Gains.length - s.B.Gains.length - s.Synth.Head.length - s.Synth.Tail.length < 0
              · rw [if_pos k4]; exact ⟨_, rfl, .inl (by omega)⟩
              · rw [if_neg k4]
                rcases laws_szInt64S_spec (l := s.Last) (n := r - s.A.Gains.length - s.B.Gains.length - s.Synth.Head.length - s.Synth.Tail.length) (by omega) w7 (by omega) with e | e
                · rw [if_pos e]; exact ⟨_, rfl, .inl (by omega)⟩
                · rw [e]
                  by_cases k5 : r - s.A.Gains.length - s.B.Gains.length - s.Synth.Head.length - s.Synth.Tail.length - s.Last.length < 0
                  · rw [if_pos k5]; exact ⟨_, rfl, .inl (by omega)⟩
                  · rw [if_neg k5]
                    exact ⟨_, rfl, .inr ⟨by omega, by omega, ⟨by omega, fun x hx => by have := g3 x hx; omega, by omega, by omega, by omega, by omega, by omega⟩⟩⟩
theorem laws_toReceiver_eq {s : SReceiver} (h : RecvOk s) : laws_toReceiver s = some s := by
  unfold laws_toReceiver
  rw [laws_toHeldS_eq h.held h.data, laws_toAnchor_eq (by have := h.a; omega), laws_toAnchor_eq (by have := h.b; omega), laws_toSynth_eq (by have := h.head; omega) (by have := h.tail; omega), laws_toInt64S_eq (by have := h.last; omega)]; rfl
theorem small {n : Nat} (h : (n : Int) ≤ 1048576) : (n : Int) ≤ maxI := by unfold maxI; omega
theorem laws_eqAnchor_self {s : SAnchor} (h1 : (s.Gains.length : Int) ≤ maxI) : laws_eqAnchor s s = some true := by
  unfold laws_eqAnchor
  rw [laws_eqInt64S_self h1]; simp
theorem laws_eqSynth_self {s : SSynth} (h1 : (s.Head.length : Int) ≤ maxI) (h2 : (s.Tail.length : Int) ≤ maxI) : laws_eqSynth s s = some true := by
  unfold laws_eqSynth
  rw [laws_eqInt64S_self h1, laws_eqInt64S_self h2]; simp
theorem laws_eqReceiver_self {s : SReceiver} (h : RecvOk s) : laws_eqReceiver s s = some true := by
  unfold laws_eqReceiver
  rw [eqHeldS_self (small h.held) (fun x hx => small (h.data x hx)), laws_eqAnchor_self (small h.a), laws_eqAnchor_self (small h.b), laws_eqSynth_self (small h.head) (small h.tail), laws_eqInt64S_self (small h.last)]; simp
theorem loop_same {ς τ : Type} {step1 step2 : ς → Option (ς ⊕ τ)} (I : Nat → ς → Prop) (Q : τ → Prop) (n : Nat)
    (h : ∀ i s, i ≤ n → I i s → step1 s = step2 s ∧ ((i < n ∧ ∃ s', step2 s = some (.inl s') ∧ I (i + 1) s') ∨ ∃ t, step2 s = some (.inr t) ∧ Q t)) {s : ς} (h0 : I 0 s) : ∃ t, loopO step1 s = some t ∧ loopO step2 s = some t ∧ Q t := by
  have key : ∀ m i s, n - i = m → i ≤ n → I i s → ∃ t, loopO step1 s = some t ∧ loopO step2 s = some t ∧ Q t := by
    intro m
    induction m with
    | zero =>
      intro i s hm hi hI
      obtain ⟨e, h | ⟨t, h1, h2⟩⟩ := h i s hi hI
      · omega
      · exact ⟨t, by rw [loopO_eq, e, h1], by rw [loopO_eq, h1], h2⟩
    | succ m ih =>
      intro i s hm hi hI
      obtain ⟨e, ⟨h1, s', h2, h3⟩ | ⟨t, h1, h2⟩⟩ := h i s hi hI
      · obtain ⟨t, k1, k2, k3⟩ := ih (i + 1) s' (by omega) (by omega) h3
        exact ⟨t, by rw [loopO_eq, e, h2]; exact k1, by rw [loopO_eq, h2]; exact k2, k3⟩
      · exact ⟨t, by rw [loopO_eq, e, h1], by rw [loopO_eq, h1], h2⟩
  exact key (n - 0) 0 s rfl (Nat.zero_le _) h0
theorem and_mask {w : Nat} {a : Int} {m : Nat} (h0 : 0 ≤ a) (h1 : a < 2 ^ w) (hm : m ≤ w) (hw : 0 < w) : (BitVec.ofInt w a &&& BitVec.ofInt w (2 ^ m - 1)).toNat = a.toNat % 2 ^ m := by
  obtain ⟨n, rfl⟩ : ∃ n : Nat, a = n := ⟨a.toNat, by omega⟩
  have hn : n < 2 ^ w := by exact_mod_cast h1
  have hm2 : (2 : Nat) ^ m - 1 < 2 ^ w := by
    have := Nat.pow_le_pow_right (n := 2) (by omega) hm
    have := Nat.two_pow_pos m
    omega
  have e : ((2 : Int) ^ m - 1) = ((2 ^ m - 1 : Nat) : Int) := by
    have := Nat.two_pow_pos m
    rw [Int.natCast_sub (by omega)]; simp
  rw [e, BitVec.toNat_and]
  simp only [BitVec.ofInt_natCast, BitVec.toNat_ofNat, Int.toNat_natCast]
  rw [Nat.mod_eq_of_lt hn, Nat.mod_eq_of_lt hm2, Nat.and_two_pow_sub_one_eq_mod]
theorem and_one {w : Nat} {a : Int} (h0 : 0 ≤ a) (h1 : a < 2 ^ w) (hw : 0 < w) : (BitVec.ofInt w a &&& BitVec.ofInt w 1).toNat = a.toNat % 2 := by
  have := and_mask (m := 1) h0 h1 (by omega) hw
  simpa using this
theorem xor_lt {a b : Int} (h0 : 0 ≤ a ∧ a < 65536) (h1 : 0 ≤ b ∧ b < 65536) : (BitVec.ofInt IntKind.i64.bits a ^^^ BitVec.ofInt IntKind.i64.bits b).toNat < 65536 := by
  obtain ⟨n, rfl⟩ : ∃ n : Nat, a = n := ⟨a.toNat, by omega⟩
  obtain ⟨m, rfl⟩ : ∃ m : Nat, b = m := ⟨b.toNat, by omega⟩
  rw [BitVec.toNat_xor]
  simp only [BitVec.ofInt_natCast, BitVec.toNat_ofNat, IntKind.bits]
  rw [Nat.mod_eq_of_lt (by omega), Nat.mod_eq_of_lt (by omega)]
  exact Nat.xor_lt_two_pow (n := 16) (by omega) (by omega)
theorem fdiv_pow {a : Int} {k : Nat} (h : 0 ≤ a) : a.fdiv (2 ^ k) = ((a.toNat / 2 ^ k : Nat) : Int) := by
  obtain ⟨n, rfl⟩ : ∃ n : Nat, a = n := ⟨a.toNat, by omega⟩
  rw [Int.fdiv_eq_ediv_of_nonneg _ (by exact_mod_cast Nat.zero_le _)]
  simp only [Int.toNat_natCast]
  exact_mod_cast rfl
theorem xor_lt64 {a b : Int} (h0 : 0 ≤ a ∧ a < 65536) (h1 : 0 ≤ b ∧ b < 65536) : (BitVec.ofInt 64 a ^^^ BitVec.ofInt 64 b).toNat < 65536 := xor_lt h0 h1
theorem crcBit_same {d : List Int} {n x k : Int} {a50 : List Int} {a51 a52 : Int} (hn : 0 ≤ n ∧ n < 65536) (hx : 0 ≤ x ∧ x ≤ 255) (hk : 0 ≤ k ∧ k ≤ 7) {i : Int} (hi : getI d i = some x) :
    impl_crcOf_u9 n x k a50 a51 a52 = spec_l2Crc_u9 d n i k ∧ ∃ r, spec_l2Crc_u9 d n i k = some r ∧ 0 ≤ r ∧ r < 65536 := by
  have hku : IntKind.u64.wrap k = k := wu64 (by omega)
  obtain ⟨kn, rfl⟩ : ∃ m : Nat, k = m := ⟨k.toNat, by omega⟩
  unfold impl_crcOf_u9 spec_l2Crc_u9
  rw [hi, if_neg (by omega), hku]
  simp only [Option.bind_some]
  rw [if_neg (by omega)]
  have e1 : IntKind.i64.wrap ((BitVec.ofInt 64 (IntKind.i64.wrap (n * 2 ^ min 1 64)) &&& BitVec.ofInt 64 65535).toNat) = (IntKind.i64.wrap (n * 2)).tmod 65536 := by
    have : (n * 2 ^ min 1 64 : Int) = n * 2 := by rw [show min 1 64 = 1 from rfl]; omega
    rw [this, w64 (n := n * 2) (by omega)]
    have := and_mask (w := 64) (a := n * 2) (m := 16) (by omega) (by omega) (by omega) (by omega)
    have e16 : ((2 : Int) ^ 16 - 1) = 65535 := by decide
    rw [e16] at this
    have h2 : (BitVec.ofInt 64 (n * 2) &&& BitVec.ofInt 64 65535).toNat = (n * 2).toNat % 65536 := this
    rw [h2, Int.tmod_eq_emod_of_nonneg (by omega), w64 (by omega)]
    omega
  have e2 : (n.fdiv (2 ^ min 15 64)) = IntKind.i64.wrap ((BitVec.ofInt 64 (n.fdiv (2 ^ min 15 64)) &&& BitVec.ofInt 64 1).toNat) := by
    have hm : min 15 64 = 15 := by decide
    rw [hm, fdiv_pow hn.1]
    have h15 : n.toNat / 2 ^ 15 < 2 := by omega
    have := and_one (w := 64) (a := ((n.toNat / 2 ^ 15 : Nat) : Int)) (by omega) (by omega) (by omega)
    have h2 : (BitVec.ofInt 64 ((n.toNat / 2 ^ 15 : Nat) : Int) &&& BitVec.ofInt 64 1).toNat = (n.toNat / 2 ^ 15) % 2 := by rw [Int.toNat_natCast] at this; exact this
    rw [h2, w64 (by omega)]
    omega
  have e3 : IntKind.i64.wrap (IntKind.u8.wrap ((BitVec.ofInt 8 (x.fdiv (2 ^ min (kn : Int).toNat 8)) &&& BitVec.ofInt 8 1).toNat)) = IntKind.i64.wrap ((BitVec.ofInt 64 ((IntKind.i64.wrap x).fdiv (2 ^ min (kn : Int).toNat 64)) &&& BitVec.ofInt 64 1).toNat) := by
    have m1 : min (kn : Int).toNat 8 = kn := by simp; omega
    have m2 : min (kn : Int).toNat 64 = kn := by simp; omega
    rw [m1, m2, w64 (n := x) (by omega), fdiv_pow hx.1]
    have hq : x.toNat / 2 ^ kn ≤ 255 := Nat.le_trans (Nat.div_le_self _ _) (by omega)
    generalize x.toNat / 2 ^ kn = q at hq ⊢
    have q1 := and_one (w := 8) (a := (q : Int)) (by omega) (by omega) (by omega)
    have q2 := and_one (w := 64) (a := (q : Int)) (by omega) (by omega) (by omega)
    have r1 : (BitVec.ofInt 8 (q : Int) &&& BitVec.ofInt 8 1).toNat = q % 2 := by rw [Int.toNat_natCast] at q1; exact q1
    have r2 : (BitVec.ofInt 64 (q : Int) &&& BitVec.ofInt 64 1).toNat = q % 2 := by rw [Int.toNat_natCast] at q2; exact q2
    rw [r1, r2, wu8 (by omega)]
  have e4 : 0 ≤ (IntKind.i64.wrap (n * 2)).tmod 65536 ∧ (IntKind.i64.wrap (n * 2)).tmod 65536 < 65536 := by
    rw [w64 (by omega), Int.tmod_eq_emod_of_nonneg (by omega)]; omega
  rw [e1, e3, ← e2]
  generalize (IntKind.i64.wrap (n * 2)).tmod 65536 = m at e4
  refine ⟨by rw [bne_comm]; rfl, ?_⟩
  unfold spec_l2Crc_u8
  have hx := xor_lt64 (a := m) (b := 4129) e4 (by omega)
  split
  · exact ⟨_, rfl, by rw [w64 (by omega)]; omega, by rw [w64 (by omega)]; omega⟩
  · exact ⟨_, rfl, e4.1, e4.2⟩
theorem crc_same {d : List Int} (hd : ∀ x ∈ d, 0 ≤ x ∧ x ≤ 255) (hl : (d.length : Int) ≤ maxI) : ∃ n, spec_l2Crc d = some n ∧ impl_crcOf d = some n ∧ 0 ≤ n ∧ n < 65536 := by
  unfold maxI at hl
  unfold spec_l2Crc impl_crcOf
  obtain ⟨t, h1, h2, h3⟩ := loop_same (step1 := impl_crcOf_s11 d (d.length : Int)) (step2 := spec_l2Crc_s11 d) (fun i s => s.2 = (i : Int) ∧ 0 ≤ s.1 ∧ s.1 < 65536) (fun t => 0 ≤ t ∧ t < 65536) d.length (by
    rintro i ⟨n, j⟩ hi ⟨hj, hn0, hn1⟩
    simp only at hj hn0 hn1
    subst hj
    simp only [impl_crcOf_s11, spec_l2Crc_s11, decide_eq_true_eq]
    rcases Nat.lt_or_ge i d.length with h | h
    · obtain ⟨x, hx, hm⟩ := get_lt h
      rw [if_pos (by omega), if_pos (by omega), getI_nat, hx, w64 (by omega)]
      simp only [Option.bind_some]
      obtain ⟨t, q1, q2, q3⟩ := loop_same (step1 := impl_crcOf_s10 x d (d.length : Int) (i : Int)) (step2 := spec_l2Crc_s10 d (i : Int)) (fun k s => s.2 = 7 - (k : Int) ∧ 0 ≤ s.1 ∧ s.1 < 65536) (fun t => 0 ≤ t ∧ t < 65536) 8 (by
        rintro k ⟨m, z⟩ hk ⟨hz, hm0, hm1⟩
        simp only at hz hm0 hm1
        subst hz
        simp only [impl_crcOf_s10, spec_l2Crc_s10, decide_eq_true_eq]
        rcases Nat.lt_or_ge k 8 with hh | hh
        · rw [if_pos (by omega), if_pos (by omega)]
          obtain ⟨e, r, er, r0, r1⟩ := crcBit_same (d := d) (n := m) (x := x) (k := 7 - (k : Int)) (a50 := d) (a51 := (d.length : Int)) (a52 := (i : Int)) ⟨hm0, hm1⟩ (hd x hm) (by omega) (i := (i : Int)) (by rw [getI_nat]; exact hx)
          rw [e, er]
          exact ⟨rfl, .inl ⟨hh, _, rfl, by simp only []; rw [w64 (by omega)]; omega, r0, r1⟩⟩
        · rw [if_neg (by omega), if_neg (by omega)]
          exact ⟨rfl, .inr ⟨_, rfl, hm0, hm1⟩⟩) (s := (n, 7)) ⟨by simp, hn0, hn1⟩
      rw [q1, q2]
      exact ⟨rfl, .inl ⟨h, _, rfl, by simp, q3.1, q3.2⟩⟩
    · rw [if_neg (by omega), if_neg (by omega)]
      exact ⟨rfl, .inr ⟨_, rfl, hn0, hn1⟩⟩) (s := (65535, 0)) ⟨by simp, by simp, by simp⟩
  rw [h1, h2]
  exact ⟨t, rfl, rfl, h3.1, h3.2⟩
theorem u8_mod {n : Int} : IntKind.u8.wrap n = n % 256 := by simp [IntKind.wrap, IntKind.bits, IntKind.signed]
theorem beq_bytes {a b : List Int} (ha : ∀ x ∈ a, 0 ≤ x ∧ x ≤ 255) (hb : ∀ x ∈ b, 0 ≤ x ∧ x ≤ 255) : ((a.map fun n => UInt8.ofNat n.toNat) == (b.map fun n => UInt8.ofNat n.toNat)) = decide (a = b) := by
  rw [Bool.eq_iff_iff, beq_iff_eq, decide_eq_true_eq]
  exact ⟨fun h => bytes_inj ha hb h, fun h => by rw [h]⟩
theorem subI_eq {α : Type} {xs : List α} {l h : Nat} (h1 : l ≤ h) (h2 : h ≤ xs.length) : subI xs (l : Int) (h : Int) = some ((xs.drop l).take (h - l)) := by
  unfold subI cutI
  rw [if_pos ⟨by omega, by omega⟩, if_pos ⟨by omega, by omega⟩]
  simp
theorem copy8 {l : List Int} (h : (l.length : Int) ≤ 1000000) : spec_l1Copy l = some l := by
  unfold spec_l1Copy; rw [if_pos (okApp_of (by omega))]
theorem clone8 {l : List Int} (h : (l.length : Int) ≤ 1000000) : slices_Clone_byte l = some l := by
  unfold slices_Clone_byte; rw [if_pos (okApp_of (by omega))]
theorem seal_spec {d : List Int} {n : Int} (h : spec_l2Crc d = some n) (hn : 0 ≤ n ∧ n < 65536) (hl : (d.length : Int) ≤ 1000000) : spec_l2Seal d = some (d ++ [n / 256, n % 256]) := by
  unfold spec_l2Seal
  rw [h]
  simp only [Option.bind_some]
  rw [copy8 hl]
  simp only [Option.bind_some]
  rw [if_pos (okApp_of (by simp; omega))]
  have e1 : n.tdiv 256 = n / 256 := Int.tdiv_eq_ediv_of_nonneg hn.1
  have e2 : n.tmod 256 = n % 256 := Int.tmod_eq_emod_of_nonneg hn.1
  rw [e1, e2, w64 (by omega), wu8 (by omega), wu8 (by omega)]
theorem two_bytes {n : Int} (hn : 0 ≤ n ∧ n < 65536) : impl_twoBytes n = [n / 256, n % 256] := by
  unfold impl_twoBytes
  rw [fdiv_pow hn.1, u8_mod, u8_mod]
  have : min 8 64 = 8 := by decide
  rw [this]
  have : ((n.toNat / 2 ^ 8 : Nat) : Int) = n / 256 := by omega
  rw [this]
  congr 1
  omega
theorem split_two {d : List Int} (h : 2 ≤ d.length) : ∃ e x y, d = e ++ [x, y] ∧ e.length = d.length - 2 := by
  have hl : (d.drop (d.length - 2)).length = 2 := by simp; omega
  obtain ⟨x, l1, e1⟩ := List.exists_cons_of_ne_nil (l := d.drop (d.length - 2)) (by intro e; rw [e] at hl; simp at hl)
  rw [e1] at hl
  obtain ⟨y, l2, rfl⟩ := List.exists_cons_of_ne_nil (l := l1) (by rintro rfl; simp at hl)
  obtain rfl : l2 = [] := List.eq_nil_of_length_eq_zero (by simpa using hl)
  exact ⟨d.take (d.length - 2), x, y, by rw [← e1, List.take_append_drop], by simp⟩
/-- What is opened. -/
noncomputable def openR (d : List Int) : SBytesResult := if 2 ≤ d.length ∧ d.length ≤ 160 then (match spec_l2Crc (d.take (d.length - 2)) with
  | some n => if d.drop (d.length - 2) = [n / 256, n % 256] then ⟨0, d.take (d.length - 2)⟩ else ⟨10, []⟩
  | none => ⟨10, []⟩) else ⟨2, []⟩
theorem open_same {d : List Int} (hd : ∀ x ∈ d, 0 ≤ x ∧ x ≤ 255) : spec_OpenBytes d = some (openR d) ∧ impl_OpenBytes d = some (openR d) := by
  unfold spec_OpenBytes impl_OpenBytes openR
  simp only [impl_inRange_eq, spec_OpenBytes_u1, decide_eq_true_eq]
  by_cases h : 2 ≤ d.length ∧ d.length ≤ 160
  · obtain ⟨e, x, y, rfl, he⟩ := split_two h.1
    have hel : e.length = (e ++ [x, y]).length - 2 := he
    have hen : (e ++ [x, y]).length = e.length + 2 := by simp
    have hde : ∀ z ∈ e, 0 ≤ z ∧ z ≤ 255 := fun z hz => hd z (by simp [hz])
    have hx := hd x (by simp)
    have hy := hd y (by simp)
    obtain ⟨n, c1, c2, c3, c4⟩ := crc_same hde (by unfold maxI; omega)
    have ht : (e ++ [x, y]).take ((e ++ [x, y]).length - 2) = e := by rw [← hel]; simp
    have hdr : (e ++ [x, y]).drop ((e ++ [x, y]).length - 2) = [x, y] := by rw [← hel]; simp
    have w1 : IntKind.i64.wrap (((e ++ [x, y]).length : Int) - 2) = ((e.length : Nat) : Int) := by rw [w64 (by omega)]; omega
    have s1 : subI (e ++ [x, y]) 0 ((e.length : Nat) : Int) = some e := by
      have := subI_eq (xs := e ++ [x, y]) (l := 0) (h := e.length) (by omega) (by omega)
      simpa using this
    have s2 : subI (e ++ [x, y]) ((e.length : Nat) : Int) ((e ++ [x, y]).length : Int) = some [x, y] := by
      have := subI_eq (xs := e ++ [x, y]) (l := e.length) (h := (e ++ [x, y]).length) (by omega) (by omega)
      rw [this]
      congr 1
      simp
    have hnb : ∀ z ∈ [n / 256, n % 256], 0 ≤ z ∧ z ≤ 255 := by
      intro z hz
      simp at hz
      rcases hz with rfl | rfl <;> omega
    have hxy : ∀ z ∈ [x, y], 0 ≤ z ∧ z ≤ 255 := by
      intro z hz
      simp at hz
      rcases hz with rfl | rfl <;> assumption
    have hs : ∀ z ∈ e ++ [n / 256, n % 256], 0 ≤ z ∧ z ≤ 255 := by
      intro z hz
      rcases List.mem_append.1 hz with hz | hz
      · exact hde z hz
      · exact hnb z hz
    have f1 : ¬ (((e ++ [x, y]).length : Int) < 2) := by omega
    have f2 : decide (((e ++ [x, y]).length : Int) > 160) = false := decide_eq_false (by omega)
    have f3 : (2 : Int) ≤ ((e ++ [x, y]).length : Int) ∧ ((e ++ [x, y]).length : Int) ≤ 160 := by omega
    have f4 : (e ++ [n / 256, n % 256] = e ++ [x, y]) ↔ ([x, y] = [n / 256, n % 256]) := by
      rw [List.append_cancel_left_eq]; exact eq_comm
    simp only [f1, f2, if_false, Bool.false_eq_true, w1, s1, s2, Option.bind_some, bytesI_eq, seal_spec c1 ⟨c3, c4⟩ (by omega), beq_bytes hs hd, f4, copy8 (l := e) (by omega), clone8 (l := e) (by omega), if_pos f3, c1, c2, bytes_Equal, two_bytes ⟨c3, c4⟩, beq_bytes hxy hnb, if_pos h, ht, hdr, decide_eq_true_eq]
    by_cases hq : [x, y] = [n / 256, n % 256]
    · simp only [hq, if_true, and_self]
    · simp only [hq, if_false, and_self]
  · have h' : ¬ (2 ≤ (d.length : Int) ∧ (d.length : Int) ≤ 160) := by omega
    simp only [if_neg h, if_neg h', and_true]
    by_cases h2 : (d.length : Int) < 2
    · simp [h2]
    · have h3 : (d.length : Int) > 160 := by omega
      simp [h2, h3]
theorem openR_ok {d : List Int} (hd : ∀ x ∈ d, 0 ≤ x ∧ x ≤ 255) : (∀ x ∈ (openR d).Bytes, 0 ≤ x ∧ x ≤ 255) ∧ (openR d).Bytes.length ≤ 158 := by
  have nil : ∀ c : Int, (∀ x ∈ (SBytesResult.mk c []).Bytes, 0 ≤ x ∧ x ≤ 255) ∧ (SBytesResult.mk c []).Bytes.length ≤ 158 := fun c => by simp
  unfold openR
  split
  · rename_i h
    split
    · split
      · exact ⟨fun x hx => hd x (List.mem_of_mem_take hx), by simp; omega⟩
      · exact nil _
    · exact nil _
  · exact nil _
theorem byteFacts : ∀ b : Fin 256, IntKind.i64.wrap ((BitVec.ofInt 64 (b.val : Int) &&& BitVec.ofInt 64 1).toNat) = (b.val : Int).tmod 2 ∧
    IntKind.i64.wrap ((BitVec.ofInt 64 ((b.val : Int).fdiv (2 ^ (min 2 64))) &&& BitVec.ofInt 64 3).toNat) = (IntKind.i64.wrap ((b.val : Int).tdiv 4)).tmod 4 ∧
    IntKind.i64.wrap ((BitVec.ofInt 64 ((b.val : Int).fdiv (2 ^ (min 4 64))) &&& BitVec.ofInt 64 3).toNat) = (IntKind.i64.wrap ((b.val : Int).tdiv 16)).tmod 4 ∧
    decide (IntKind.i64.wrap ((BitVec.ofInt 64 (b.val : Int) &&& BitVec.ofInt 64 2).toNat) > 0) = ((IntKind.i64.wrap ((b.val : Int).tdiv 2)).tmod 2 == 1) ∧
    IntKind.i64.wrap ((b.val : Int).tdiv 64) = (b.val : Int).fdiv (2 ^ (min 6 64)) ∧ 0 ≤ (b.val : Int).fdiv (2 ^ (min 6 64)) ∧ (b.val : Int).fdiv (2 ^ (min 6 64)) ≤ 3 := by decide +kernel
theorem or_bytes {a b : Int} (ha : 0 ≤ a ∧ a ≤ 255) (hb : 0 ≤ b ∧ b ≤ 255) : IntKind.i64.wrap ((BitVec.ofInt 64 (IntKind.i64.wrap (a * 2 ^ (min 8 64))) ||| BitVec.ofInt 64 b).toNat) = a * 256 + b := by
  obtain ⟨n, rfl⟩ : ∃ n : Nat, a = n := ⟨a.toNat, by omega⟩
  obtain ⟨m, rfl⟩ : ∃ m : Nat, b = m := ⟨b.toNat, by omega⟩
  have h8 : min 8 64 = 8 := by decide
  have e : ((n : Int) * 2 ^ 8) = ((2 ^ 8 * n : Nat) : Int) := by omega
  rw [h8, e, w64 (n := ((2 ^ 8 * n : Nat) : Int)) (by omega), BitVec.toNat_or]
  simp only [BitVec.ofInt_natCast, BitVec.toNat_ofNat, IntKind.bits]
  rw [Nat.mod_eq_of_lt (by omega), Nat.mod_eq_of_lt (by omega), ← Nat.two_pow_add_eq_or_of_lt (by omega), w64 (by omega)]
  omega
theorem head_same {d : List Int} (hd : ∀ x ∈ d, 0 ≤ x ∧ x ≤ 255) : ∃ r, spec_ReadHead d = some r ∧ impl_ReadHead d = some r ∧ (r.Code = 0 → (0 ≤ r.Head.Side ∧ r.Head.Side ≤ 1) ∧ (0 ≤ r.Head.Number ∧ r.Head.Number ≤ 9999)) := by
  unfold spec_ReadHead impl_ReadHead
  obtain ⟨o1, o2⟩ := open_same hd
  obtain ⟨b1, b2⟩ := openR_ok hd
  rw [o1, o2]
  simp only [Option.bind_some]
  by_cases hc : ((openR d).Code != 0) = true
  · simp only [hc, if_true]
    exact ⟨_, rfl, rfl, fun h => absurd (show (openR d).Code = 0 from h) (by simpa using hc)⟩
  · simp only [hc, Bool.false_eq_true, if_false]
    generalize (openR d).Bytes = l at b1 b2
    unfold impl_readHead
    simp only [decide_eq_true_eq]
    by_cases h3 : (l.length : Int) < 3
    · simp only [h3, if_true, Option.bind_some, Bool.false_eq_true, if_false]
      exact ⟨_, rfl, rfl, fun h => by simp at h⟩
    · simp only [h3, if_false]
      obtain ⟨x0, e0, m0⟩ := get_lt (l := l) (i := 0) (by omega)
      obtain ⟨x1, e1, m1⟩ := get_lt (l := l) (i := 1) (by omega)
      obtain ⟨x2, e2, m2⟩ := get_lt (l := l) (i := 2) (by omega)
      have g0 : getI l 0 = some x0 := by rw [← e0]; exact getI_nat (i := 0)
      have g1 : getI l 1 = some x1 := by rw [← e1]; exact getI_nat (i := 1)
      have g2 : getI l 2 = some x2 := by rw [← e2]; exact getI_nat (i := 2)
      have t0 : l[(0 : Int).toNat]? = some x0 := e0
      have t1 : l[(1 : Int).toNat]? = some x1 := e1
      have t2 : l[(2 : Int).toNat]? = some x2 := e2
      have r0 := b1 x0 m0
      have r1 := b1 x1 m1
      have r2 := b1 x2 m2
      obtain ⟨f1, f2, f3, f4, f5, f6, f7⟩ := byteFacts ⟨x2.toNat, by omega⟩
      have ex : ((x2.toNat : Nat) : Int) = x2 := by omega
      simp only [ex] at f1 f2 f3 f4 f5 f6 f7
      have w0 : IntKind.i64.wrap x0 = x0 := w64 (by omega)
      have w1 : IntKind.i64.wrap x1 = x1 := w64 (by omega)
      have w2 : IntKind.i64.wrap x2 = x2 := w64 (by omega)
      have wn : IntKind.i64.wrap (IntKind.i64.wrap (x0 * 256) + x1) = x0 * 256 + x1 := by rw [w64 (n := x0 * 256) (by omega), w64 (by omega)]
      simp only [g0, g1, g2, t0, t1, t2, Option.bind_some, w0, w1, w2, wn, or_bytes r0 r1, f1, f2, f3, f4, f5]
      rw [if_neg (show ¬ x2.fdiv (2 ^ (min 6 64)) < 0 by omega)]
      generalize hq : x2.fdiv (2 ^ (min 6 64)) = q at f6 f7
      have hsz : q < 3 → IntKind.i64.wrap (4 * 2 ^ (min q.toNat 64)) = spec_ReadHead_u2 (x0 * 256 + x1) (x2.tmod 2) ((IntKind.i64.wrap (x2.tdiv 4)).tmod 4) ((IntKind.i64.wrap (x2.tdiv 16)).tmod 4) ((IntKind.i64.wrap (x2.tdiv 2)).tmod 2 == 1) q := by
        intro h
        have : q = 0 ∨ q = 1 ∨ q = 2 := by omega
        rcases this with rfl | rfl | rfl <;> simp only [spec_ReadHead_u2, spec_ReadHead_u1] <;> decide
      have hside : 0 ≤ x2.tmod 2 ∧ x2.tmod 2 ≤ 1 := by rw [Int.tmod_eq_emod_of_nonneg r2.1]; omega
      have hu3 : spec_ReadHead_u3 (x0 * 256 + x1) (spec_ReadHead_u2 (x0 * 256 + x1) (x2.tmod 2) ((IntKind.i64.wrap (x2.tdiv 4)).tmod 4) ((IntKind.i64.wrap (x2.tdiv 16)).tmod 4) ((IntKind.i64.wrap (x2.tdiv 2)).tmod 2 == 1) q) (x2.tmod 2) ((IntKind.i64.wrap (x2.tdiv 4)).tmod 4) ((IntKind.i64.wrap (x2.tdiv 16)).tmod 4) ((IntKind.i64.wrap (x2.tdiv 2)).tmod 2 == 1) =
          !(impl_readHead_u1 (x0 * 256 + x1) (IntKind.i64.wrap (4 * 2 ^ (min q.toNat 64))) (x2.tmod 2) ((IntKind.i64.wrap (x2.tdiv 4)).tmod 4) ((IntKind.i64.wrap (x2.tdiv 16)).tmod 4) ((IntKind.i64.wrap (x2.tdiv 2)).tmod 2 == 1) x2) := by
        have hsp : 0 ≤ (IntKind.i64.wrap (x2.tdiv 4)).tmod 4 := by
          have : 0 ≤ x2.tdiv 4 ∧ x2.tdiv 4 ≤ 255 := by rw [Int.tdiv_eq_ediv_of_nonneg r2.1]; omega
          rw [w64 (by omega), Int.tmod_eq_emod_of_nonneg this.1]; omega
        generalize (IntKind.i64.wrap (x2.tdiv 4)).tmod 4 = sp at hsp
        simp only [spec_ReadHead_u3, impl_readHead_u1, impl_isNumber, impl_isSpread, impl_inRange_eq, decide_eq_true_eq, hq]
        by_cases k1 : x0 * 256 + x1 > 9999
        · rw [if_pos k1, if_neg (show ¬ (0 ≤ x0 * 256 + x1 ∧ x0 * 256 + x1 ≤ 9999) by omega)]; rfl
        · rw [if_neg k1, if_pos (show 0 ≤ x0 * 256 + x1 ∧ x0 * 256 + x1 ≤ 9999 by omega)]
          by_cases k2 : sp > 2
          · rw [if_pos k2, if_neg (show ¬ (0 ≤ sp ∧ sp ≤ 2) by omega)]; rfl
          · rw [if_neg k2, if_pos (show 0 ≤ sp ∧ sp ≤ 2 by omega)]
            have : q = 0 ∨ q = 1 ∨ q = 2 ∨ q = 3 := by omega
            rcases this with rfl | rfl | rfl | rfl <;> simp only [spec_ReadHead_u2, spec_ReadHead_u1] <;> decide
      rw [hu3]
      cases hk : impl_readHead_u1 (x0 * 256 + x1) (IntKind.i64.wrap (4 * 2 ^ (min q.toNat 64))) (x2.tmod 2) ((IntKind.i64.wrap (x2.tdiv 4)).tmod 4) ((IntKind.i64.wrap (x2.tdiv 16)).tmod 4) ((IntKind.i64.wrap (x2.tdiv 2)).tmod 2 == 1) x2 with
      | false =>
        simp only [Bool.not_false, if_true, Bool.false_eq_true, if_false]
        exact ⟨_, rfl, rfl, fun h => by simp at h⟩
      | true =>
        simp only [impl_readHead_u1, impl_isNumber, impl_inRange_eq, decide_eq_true_eq, hq] at hk
        split at hk
        · rename_i hnum
          split at hk
          · rw [← hsz (by simpa using hk)]
            simp only [Bool.not_true, Bool.false_eq_true, if_false, if_true]
            exact ⟨_, rfl, rfl, fun _ => ⟨hside, hnum⟩⟩
          · simp at hk
        · simp at hk
theorem synth_same {s : SSynth} (h1 : (s.Head.length : Int) ≤ maxI) (h2 : (s.Tail.length : Int) ≤ maxI) : ∃ c, spec_SynthFault s = some c ∧ impl_SynthFault s = some c := by
  unfold spec_SynthFault impl_SynthFault
  simp only [spec_SynthFault_u1, spec_SynthFault_u2, impl_SynthFault_u1, allWithin_eq (k := 1073741824) (by omega) h1, allWithin_eq (k := 268435456) (by omega) h2, l1All_all h1, l1All_all h2, size_same, impl_halfOf, impl_codeIf_eq, Option.bind_some]
  generalize (s.Head.all fun x => decide (-1073741824 ≤ x ∧ x ≤ 1073741824)) = A
  generalize (s.Tail.all fun x => decide (-268435456 ≤ x ∧ x ≤ 268435456)) = B
  generalize IntKind.i64.wrap (s.Size.tdiv 2) = w
  have ha : ∀ a b c : Int, impl_first [a, b, c] = some (firstL [a, b, c]) := fun a b c => impl_first_eq (by simp [maxI])
  simp only [ha, Option.bind_some, bne]
  generalize ((s.Head.length : Int) == w) = b1
  generalize ((s.Tail.length : Int) == w) = b2
  rcases size_cases (n := s.Size) with hz | hz <;> rw [hz] <;> cases A <;> cases B <;> cases b1 <;> cases b2 <;> exact ⟨_, rfl, rfl⟩
theorem cmp_eq {a b : Int} : cmp_Compare_int64 a b = if a < b then -1 else if a > b then 1 else 0 := by
  unfold cmp_Compare_int64 cmp_isNaN_int64
  simp
theorem cmpHeld_eq {x y : SHeld} : impl_compareHeld x y = some (if cmp_Compare_int64 x.Number y.Number ≠ 0 then cmp_Compare_int64 x.Number y.Number else cmp_Compare_int64 x.Side y.Side) := by
  unfold impl_compareHeld
  have : cmp_Or_int [cmp_Compare_int64 x.Number y.Number, cmp_Compare_int64 x.Side y.Side] = impl_first [cmp_Compare_int64 x.Number y.Number, cmp_Compare_int64 x.Side y.Side] := rfl
  rw [this, impl_first_eq (by simp [maxI])]
  simp only [Option.bind_some, firstL]
  split
  · rfl
  · split
    · rfl
    · rename_i h; simp only [ne_eq, Classical.not_not] at h; rw [h]
/-- A held packet in its place. -/
def HeldOk (s : SReceiver) (x : SHeld) : Prop := (s.Next ≤ x.Number ∧ x.Number ≤ s.Next + 8) ∧ 0 ≤ x.Side ∧ x.Side ≤ 1
theorem held_same {s : SReceiver} (hn : 0 ≤ s.Next ∧ s.Next ≤ 10000) (hl : (s.Held.length : Int) ≤ maxI) (hd : ∀ x ∈ s.Held, ∀ b ∈ x.Data, 0 ≤ b ∧ b ≤ 255) : ∃ c, spec_l18Held s = some c ∧ impl_heldFault s = some c := by
  unfold maxI at hl
  unfold spec_l18Held impl_heldFault
  have w8 : IntKind.i64.wrap (s.Next + 8) = s.Next + 8 := w64 (by omega)
  obtain ⟨t, h1, h2, h3⟩ := loop_same (step1 := impl_heldFault_s3 s.Size s.Next s.Held s.A.Known s.A.Number s.A.Rung s.A.Gains s.B.Known s.B.Number s.B.Rung s.B.Gains s.Synth.Size s.Synth.Head s.Synth.Tail s.Last s.Lost (s.Held.length : Int))
      (step2 := spec_l18Held_s3 s.Size s.Next s.Held s.A.Known s.A.Number s.A.Rung s.A.Gains s.B.Known s.B.Number s.B.Rung s.B.Gains s.Synth.Size s.Synth.Head s.Synth.Tail s.Last s.Lost)
      (fun i a => a = (i : Int) ∧ ∀ (j : Nat) (x : SHeld), j < i → s.Held[j]? = some x → HeldOk s x) (fun t => (t = .inl () ∧ ∀ x ∈ s.Held, HeldOk s x) ∨ ∃ c, t = .inr c) s.Held.length (by
    rintro i a hi ⟨rfl, hj⟩
    simp only [impl_heldFault_s3, spec_l18Held_s3, decide_eq_true_eq]
    rcases Nat.lt_or_ge i s.Held.length with h | h
    · obtain ⟨x, hx, hm⟩ := get_lt h
      obtain ⟨r, r1, r2, r3⟩ := head_same (hd x hm)
      rw [if_pos (by omega), if_pos (by omega), getI_nat, hx]
      simp only [Option.bind_some, spec_l1In_eq, impl_inRange_eq, w8, r1, r2, decide_eq_true_eq]
      by_cases hin : s.Next ≤ x.Number ∧ x.Number ≤ s.Next + 8
      · rw [if_pos hin, if_pos hin]
        refine ⟨rfl, ?_⟩
        by_cases hq : spec_l18Held_u2 x.Number x.Side x.Data r.Code r.Head.Number r.Head.Size r.Head.Side r.Head.Spread r.Head.Mask r.Head.Intra s.Size s.Next s.Held s.A.Known s.A.Number s.A.Rung s.A.Gains s.B.Known s.B.Number s.B.Rung s.B.Gains s.Synth.Size s.Synth.Head s.Synth.Tail s.Last s.Lost (i : Int) = true
        · rw [if_pos hq]; exact .inr ⟨_, rfl, .inr ⟨1, rfl⟩⟩
        · rw [if_neg hq, w64 (by omega)]
          refine .inl ⟨h, _, rfl, by simp, fun j y hj' hy => ?_⟩
          rcases Nat.lt_or_ge j i with hji | hji
          · exact hj j y hji hy
          · obtain rfl : j = i := by omega
            rw [hx] at hy; obtain rfl := Option.some.inj hy
            unfold spec_l18Held_u2 at hq
            by_cases q1 : r.Code = 0
            · by_cases q2 : r.Head.Number = x.Number
              · by_cases q3 : r.Head.Side = x.Side
                · exact ⟨hin, by rw [← q3]; exact (r3 q1).1⟩
                · simp [q1, q2, q3] at hq
              · simp [q1, q2] at hq
            · simp [q1] at hq
      · rw [if_neg hin, if_neg hin]; exact ⟨rfl, .inr ⟨_, rfl, .inr ⟨3, rfl⟩⟩⟩
    · rw [if_neg (by omega), if_neg (by omega)]
      refine ⟨rfl, .inr ⟨_, rfl, .inl ⟨rfl, fun x hx => ?_⟩⟩⟩
      obtain ⟨j, hj'⟩ := List.getElem?_of_mem hx
      exact hj j x (by have := (List.getElem?_eq_some_iff.1 hj').1; omega) hj') (s := 0) ⟨rfl, fun j x hj => by omega⟩
  rw [h1, h2]
  rcases h3 with ⟨rfl, hok⟩ | ⟨c, rfl⟩
  · simp only [Option.bind_some, Sum.elim_inl]
    obtain ⟨t, g1, g2, _⟩ := loop_same (step1 := impl_heldFault_s4 s.Size s.Next s.Held s.A.Known s.A.Number s.A.Rung s.A.Gains s.B.Known s.B.Number s.B.Rung s.B.Gains s.Synth.Size s.Synth.Head s.Synth.Tail s.Last s.Lost)
        (step2 := spec_l18Held_s4 s.Size s.Next s.Held s.A.Known s.A.Number s.A.Rung s.A.Gains s.B.Known s.B.Number s.B.Rung s.B.Gains s.Synth.Size s.Synth.Head s.Synth.Tail s.Last s.Lost)
        (fun i a => a = (i : Int) + 1) (fun _ => True) s.Held.length (by
      rintro i a hi rfl
      simp only [impl_heldFault_s4, spec_l18Held_s4, decide_eq_true_eq]
      rcases Nat.lt_or_ge (i + 1) s.Held.length with h | h
      · obtain ⟨x, hx, hm⟩ := get_lt (l := s.Held) (i := i) (by omega)
        obtain ⟨y, hy, hm'⟩ := get_lt h
        have e1 : IntKind.i64.wrap ((i : Int) + 1 - 1) = (i : Int) := by rw [w64 (by omega)]; omega
        have e2 : ((i : Int) + 1) = ((i + 1 : Nat) : Int) := by omega
        rw [if_pos (by omega), if_pos (by omega), e1, getI_nat, hx]
        simp only [Option.bind_some, e2, getI_nat, hy, cmpHeld_eq]
        obtain ⟨x1, x2⟩ := hok x hm
        obtain ⟨y1, y2⟩ := hok y hm'
        have px : spec_l18Place x = 2 * x.Number + x.Side := by unfold spec_l18Place; rw [w64 (n := 2 * x.Number) (by omega), w64 (by omega)]
        have py : spec_l18Place y = 2 * y.Number + y.Side := by unfold spec_l18Place; rw [w64 (n := 2 * y.Number) (by omega), w64 (by omega)]
        have key : ((if cmp_Compare_int64 x.Number y.Number ≠ 0 then cmp_Compare_int64 x.Number y.Number else cmp_Compare_int64 x.Side y.Side) ≥ 0) ↔ (2 * x.Number + x.Side ≥ 2 * y.Number + y.Side) := by
          rw [cmp_eq, cmp_eq]
          by_cases c1 : x.Number < y.Number
          · simp [c1]; omega
          · by_cases c2 : x.Number > y.Number
            · simp [c1, c2]; omega
            · by_cases c3 : x.Side < y.Side
              · simp [c1, c2, c3]; omega
              · by_cases c4 : x.Side > y.Side
                · simp [c1, c2, c3, c4]; omega
                · simp [c1, c2, c3, c4]; omega
        rw [px, py]
        by_cases hk : 2 * x.Number + x.Side ≥ 2 * y.Number + y.Side
        · rw [if_pos (key.2 hk), if_pos hk]; exact ⟨rfl, .inr ⟨_, rfl, trivial⟩⟩
        · rw [if_neg (fun q => hk (key.1 q)), if_neg hk, w64 (by omega)]; exact ⟨rfl, .inl ⟨by omega, _, rfl, by omega⟩⟩
      · rw [if_neg (by omega), if_neg (by omega)]
        exact ⟨rfl, .inr ⟨_, rfl, trivial⟩⟩) (s := 1) (by simp)
    rw [g1, g2]
    cases t with
    | inl u => exact ⟨0, rfl, rfl⟩
    | inr u => exact ⟨1, rfl, rfl⟩
  · exact ⟨c, rfl, rfl⟩
theorem receiver_same {s : SReceiver} (w : s.Wf) : ∃ c, spec_ReceiverFault s = some c ∧ impl_ReceiverFault s = some c := by
  obtain ⟨_, _, ⟨w0, w1⟩, ⟨_, _, _, w3, _⟩, ⟨_, _, _, w4, _⟩, ⟨_, ⟨w5, _⟩, ⟨w6, _⟩⟩, ⟨w7, _⟩, _⟩ := w
  obtain ⟨c1, p1, q1⟩ := synth_same (s := s.Synth) w5 w6
  obtain ⟨c2, p2, q2⟩ := anchor_same (s := s.A) w3
  obtain ⟨c3, p3, q3⟩ := anchor_same (s := s.B) w4
  have hf : ∀ a b c d e f g h : Int, impl_first [a, b, c, d, e, f, g, h] = some (firstL [a, b, c, d, e, f, g, h]) := fun a b c d e f g h => impl_first_eq (by simp [maxI])
  have eY : SSynth.mk s.Synth.Size s.Synth.Head s.Synth.Tail = s.Synth := rfl
  have eA : SAnchor.mk s.A.Known s.A.Number s.A.Rung s.A.Gains = s.A := rfl
  have eB : SAnchor.mk s.B.Known s.B.Number s.B.Rung s.B.Gains = s.B := rfl
  have hu : impl_ReceiverFault_u1 s.Size s.Next s.Held s.A.Known s.A.Number s.A.Rung s.A.Gains s.B.Known s.B.Number s.B.Rung s.B.Gains s.Synth.Size s.Synth.Head s.Synth.Tail s.Last s.Lost =
      some (firstL [spec_SizeFault s.Size, if (0 ≤ s.Next ∧ s.Next ≤ 10000) ∧ 0 ≤ s.Lost ∧ s.Lost ≤ 100 then 0 else 3, if (s.Held.length : Int) > 18 ∨ (s.Last.length : Int) ≠ s.Size then 2 else 0,
        if (s.Last.all fun x => decide (-16777216 ≤ x ∧ x ≤ 16777216)) = true then 0 else 3, c1, if s.Synth.Size ≠ s.Size then 1 else 0, c2, c3]) := by
    unfold impl_ReceiverFault_u1
    simp only [impl_inRange_eq, decide_eq_true_eq, allWithin_eq (k := 16777216) (by omega) w7, eY, eA, eB, q1, q2, q3, Option.bind_some, impl_codeIf_eq, size_same]
    generalize (s.Last.all fun x => decide (-16777216 ≤ x ∧ x ≤ 16777216)) = A
    by_cases k1 : 0 ≤ s.Next ∧ s.Next ≤ 10000 <;> by_cases k2 : (s.Held.length : Int) > 18 <;> by_cases k3 : 0 ≤ s.Lost ∧ s.Lost ≤ 100 <;> by_cases k4 : (s.Last.length : Int) = s.Size <;> by_cases k5 : s.Synth.Size = s.Size <;>
      simp only [k1, k2, k3, k4, k5, hf, Option.bind_some, decide_true, decide_false, if_true, if_false, and_true, and_false, Bool.not_true, Bool.not_false, bne_self_eq_false, Bool.false_eq_true, or_true, or_false, ne_eq, not_true, not_false_eq_true, bne_iff_ne] <;> cases A <;> rfl
  unfold spec_ReceiverFault impl_ReceiverFault
  rw [hu]
  simp only [Option.bind_some, spec_ReceiverFault_u1, spec_ReceiverFault_u2, spec_l1In_eq, l1All_all w7, p1, p2, p3, decide_eq_true_eq, firstL]
  by_cases hn : 0 ≤ s.Next ∧ s.Next ≤ 10000
  · obtain ⟨c4, p4, q4⟩ := held_same hn w0 (fun x hx b hb => wfU8.1 ((w1 x hx).2.2.2 b hb))
    simp only [p4, q4, Option.bind_some]
    generalize (s.Last.all fun x => decide (-16777216 ≤ x ∧ x ≤ 16777216)) = A
    rcases size_cases (n := s.Size) with hz | hz <;> simp only [hz]
    · by_cases k3 : 0 ≤ s.Lost ∧ s.Lost ≤ 100
      · by_cases k2 : (s.Held.length : Int) > 18
        · simp [hn, k2, k3]
        · by_cases k4 : (s.Last.length : Int) = s.Size
          · cases A
            · simp [hn, k2, k3, k4]
            · by_cases m1 : c1 = 0
              · by_cases k5 : s.Synth.Size = s.Size
                · by_cases m2 : c2 = 0
                  · by_cases m3 : c3 = 0
                    · simp [hn, k2, k3, k4, m1, m2, m3, k5]
                    · simp [hn, k2, k3, k4, m1, m2, m3, k5]
                  · simp [hn, k2, k3, k4, m1, m2, k5]
                · simp [hn, k2, k3, k4, m1, k5]
              · simp [hn, k2, k3, k4, m1]
          · simp [hn, k2, k3, k4]
      · simp [hn, k3]
    · exact ⟨3, by simp, by simp⟩
  · rcases size_cases (n := s.Size) with hz | hz <;> simp [hz, hn]
theorem laws_heldInt64S_eq {l : List Int} {k : Int} (hk : 0 ≤ k) (hs : k + l.length ≤ maxI) (h : ∀ (j : Nat), j < l.length → l[j]? = some (k + j)) : laws_heldInt64S l k = some (k + l.length) := by
  unfold maxI at hs
  unfold laws_heldInt64S
  obtain ⟨t, h1, rfl⟩ := loop_rule (step := laws_heldInt64S_s1 l) (fun i s => s = (k + (i : Int), (i : Int))) (fun t => t = .inl (k + (l.length : Int))) l.length (by
    rintro i s hi rfl
    simp only [laws_heldInt64S_s1, decide_eq_true_eq]
    rcases Nat.lt_or_ge i l.length with hh | hh
    · left
      rw [if_pos (by omega), getI_nat, h i hh, w64 (by omega), w64 (by omega)]
      simp only [Option.bind_some, bne_self_eq_false, Bool.false_eq_true, if_false]
      exact ⟨hh, _, rfl, by simp only [Prod.mk.injEq]; omega⟩
    · right
      obtain rfl : i = l.length := by omega
      rw [if_neg (by omega)]
      exact ⟨_, rfl, rfl⟩) (s := (k, 0)) (by simp)
  rw [h1]; rfl
theorem laws_markInt64S_eq {l : List Int} {k : Int} (hk : 0 ≤ k) (hs : k + l.length ≤ maxI) : ∃ l', laws_markInt64S l k = some (k + l.length, l') ∧ l'.length = l.length ∧ laws_heldInt64S l' k = some (k + l.length) := by
  have hs' := hs
  unfold maxI at hs
  unfold laws_markInt64S
  obtain ⟨t, h1, h2, h3, h4⟩ := loop_rule (step := laws_markInt64S_s1) (fun i s => s.2.1 = k + (i : Int) ∧ s.2.2 = (i : Int) ∧ s.1.length = l.length ∧ ∀ (j : Nat), j < i → s.1[j]? = some (k + j)) (fun t => t.2 = k + (l.length : Int) ∧ t.1.length = l.length ∧ ∀ (j : Nat), j < l.length → t.1[j]? = some (k + j)) l.length (by
    rintro i ⟨a, m, n⟩ hi ⟨hm, hn, ha, hj⟩
    simp only at hm hn ha hj
    subst hm; subst hn
    simp only [laws_markInt64S_s1, decide_eq_true_eq]
    rcases Nat.lt_or_ge i l.length with hh | hh
    · left
      obtain ⟨y, hy, _⟩ := get_lt (l := a) (i := i) (by omega)
      rw [if_pos (by omega), getI_nat, hy, Int.toNat_natCast, hy, w64 (by omega), w64 (by omega)]
      refine ⟨hh, _, rfl, by simp; omega, by simp, by simp [ha], fun j hj' => ?_⟩
      simp only [List.getElem?_set]
      split
      · rename_i e; subst e; rw [if_pos (by omega)]
      · exact hj j (by omega)
    · right
      obtain rfl : i = l.length := by omega
      rw [if_neg (by omega)]
      exact ⟨_, rfl, rfl, ha, hj⟩) (s := (l, k, 0)) ⟨by simp, rfl, rfl, fun j hj => by omega⟩
  rw [h1]
  obtain ⟨a, b⟩ := t
  simp only at h2 h3 h4
  subst h2
  refine ⟨a, rfl, h3, ?_⟩
  have := laws_heldInt64S_eq (l := a) hk (by rw [h3]; exact hs') (by rw [h3]; exact h4)
  rw [h3] at this
  exact this
theorem u8w {n : Int} : 0 ≤ IntKind.u8.wrap n ∧ IntKind.u8.wrap n ≤ 255 := by simp [IntKind.wrap, IntKind.bits, IntKind.signed]; omega
theorem laws_heldByteS_eq {l : List Int} {k : Int} (hk : 0 ≤ k) (hs : k + l.length ≤ maxI) (h : ∀ (j : Nat), j < l.length → l[j]? = some (IntKind.u8.wrap (k + j))) : laws_heldByteS l k = some (k + l.length) := by
  unfold maxI at hs
  unfold laws_heldByteS
  obtain ⟨t, h1, rfl⟩ := loop_rule (step := laws_heldByteS_s1 l) (fun i s => s = (k + (i : Int), (i : Int))) (fun t => t = .inl (k + (l.length : Int))) l.length (by
    rintro i s hi rfl
    simp only [laws_heldByteS_s1, decide_eq_true_eq]
    rcases Nat.lt_or_ge i l.length with hh | hh
    · left
      rw [if_pos (by omega), getI_nat, h i hh, w64 (by omega), w64 (by omega)]
      simp only [Option.bind_some, bne_self_eq_false, Bool.false_eq_true, if_false]
      exact ⟨hh, _, rfl, by simp only [Prod.mk.injEq]; omega⟩
    · right
      obtain rfl : i = l.length := by omega
      rw [if_neg (by omega)]
      exact ⟨_, rfl, rfl⟩) (s := (k, 0)) (by simp)
  rw [h1]; rfl
theorem laws_markByteS_eq {l : List Int} {k : Int} (hk : 0 ≤ k) (hs : k + l.length ≤ maxI) : ∃ l', laws_markByteS l k = some (k + l.length, l') ∧ l'.length = l.length ∧ laws_heldByteS l' k = some (k + l.length) := by
  have hs' := hs
  unfold maxI at hs
  unfold laws_markByteS
  obtain ⟨t, h1, h2, h3, h4⟩ := loop_rule (step := laws_markByteS_s1) (fun i s => s.2.1 = k + (i : Int) ∧ s.2.2 = (i : Int) ∧ s.1.length = l.length ∧ ∀ (j : Nat), j < i → s.1[j]? = some (IntKind.u8.wrap (k + j))) (fun t => t.2 = k + (l.length : Int) ∧ t.1.length = l.length ∧ ∀ (j : Nat), j < l.length → t.1[j]? = some (IntKind.u8.wrap (k + j))) l.length (by
    rintro i ⟨a, m, n⟩ hi ⟨hm, hn, ha, hj⟩
    simp only at hm hn ha hj
    subst hm; subst hn
    simp only [laws_markByteS_s1, decide_eq_true_eq]
    rcases Nat.lt_or_ge i l.length with hh | hh
    · left
      obtain ⟨y, hy, _⟩ := get_lt (l := a) (i := i) (by omega)
      rw [if_pos (by omega), getI_nat, hy, Int.toNat_natCast, hy, w64 (n := k + i + 1) (by omega), w64 (n := (i : Int) + 1) (by omega)]
      refine ⟨hh, _, rfl, by simp; omega, by simp, by simp [ha], fun j hj' => ?_⟩
      simp only [List.getElem?_set]
      split
      · rename_i e; subst e; rw [if_pos (by omega)]
      · exact hj j (by omega)
    · right
      obtain rfl : i = l.length := by omega
      rw [if_neg (by omega)]
      exact ⟨_, rfl, rfl, ha, hj⟩) (s := (l, k, 0)) ⟨by simp, rfl, rfl, fun j hj => by omega⟩
  rw [h1]
  obtain ⟨a, b⟩ := t
  simp only at h2 h3 h4
  subst h2
  refine ⟨a, rfl, h3, ?_⟩
  have := laws_heldByteS_eq (l := a) hk (by rw [h3]; exact hs') (by rw [h3]; exact h4)
  rw [h3] at this
  exact this
theorem markAnchor_eq {s : SAnchor} {k : Int} (hk : 0 ≤ k) (h : k + s.Gains.length ≤ maxI) : ∃ s', laws_markAnchor_o s k = some (k + s.Gains.length, s') ∧ s'.Gains.length = s.Gains.length ∧ ∀ x y z, laws_heldAnchor ⟨x, y, z, s'.Gains⟩ k = some (k + s.Gains.length) := by
  unfold laws_markAnchor_o
  obtain ⟨a, a1, a2, a3⟩ := laws_markInt64S_eq (l := s.Gains) hk (by omega)
  simp only [a1, a2, Option.bind_some, if_true]
  refine ⟨_, rfl, a2, fun x y z => ?_⟩
  unfold laws_heldAnchor
  have d1 : ¬ (k + (s.Gains.length : Int) < 0) := by omega
  simp [a3, d1]
theorem markSynth_eq {s : SSynth} {k : Int} (hk : 0 ≤ k) (h : k + s.Head.length + s.Tail.length ≤ maxI) : ∃ s', laws_markSynth_oo s k = some (k + s.Head.length + s.Tail.length, s') ∧ s'.Head.length = s.Head.length ∧ s'.Tail.length = s.Tail.length ∧
    ∀ z, laws_heldSynth ⟨z, s'.Head, s'.Tail⟩ k = some (k + s.Head.length + s.Tail.length) := by
  unfold laws_markSynth_oo
  obtain ⟨a, a1, a2, a3⟩ := laws_markInt64S_eq (l := s.Head) hk (by omega)
  obtain ⟨b, b1, b2, b3⟩ := laws_markInt64S_eq (l := s.Tail) (k := k + s.Head.length) (by omega) (by omega)
  simp only [a1, a2, b1, b2, Option.bind_some, if_true, and_self]
  refine ⟨_, rfl, a2, b2, fun z => ?_⟩
  unfold laws_heldSynth
  have d1 : ¬ (k + (s.Head.length : Int) < 0) := by omega
  have d2 : ¬ (k + (s.Head.length : Int) + (s.Tail.length : Int) < 0) := by omega
  simp only [a3, b3, d1, d2, Option.bind_some, decide_eq_true_eq, if_false]
def place (x : SHeld) : Int := 2 * x.Number + x.Side
theorem place_eq {s : SReceiver} {x : SHeld} (hn : 0 ≤ s.Next ∧ s.Next ≤ 10000) (h : HeldOk s x) : spec_l18Place x = place x := by
  obtain ⟨h1, h2⟩ := h
  unfold spec_l18Place place; rw [w64 (n := 2 * x.Number) (by omega), w64 (by omega)]
/-- What lies held lies in its place, one behind the other. -/
def HeldIn (s : SReceiver) : Prop := (∀ x ∈ s.Held, HeldOk s x) ∧ ∀ (i : Nat) (x y : SHeld), s.Held[i]? = some x → s.Held[i + 1]? = some y → place x < place y
theorem held_in {s : SReceiver} (hn : 0 ≤ s.Next ∧ s.Next ≤ 10000) (hl : (s.Held.length : Int) ≤ maxI) (hd : ∀ x ∈ s.Held, ∀ b ∈ x.Data, 0 ≤ b ∧ b ≤ 255) (h0 : spec_l18Held s = some 0) : HeldIn s := by
  unfold maxI at hl
  unfold spec_l18Held at h0
  have w8 : IntKind.i64.wrap (s.Next + 8) = s.Next + 8 := w64 (by omega)
  obtain ⟨t, h1, h3⟩ := loop_rule (step := spec_l18Held_s3 s.Size s.Next s.Held s.A.Known s.A.Number s.A.Rung s.A.Gains s.B.Known s.B.Number s.B.Rung s.B.Gains s.Synth.Size s.Synth.Head s.Synth.Tail s.Last s.Lost)
      (fun i a => a = (i : Int) ∧ ∀ (j : Nat) (x : SHeld), j < i → s.Held[j]? = some x → HeldOk s x) (fun t => (t = .inl () ∧ ∀ x ∈ s.Held, HeldOk s x) ∨ t = .inr 1 ∨ t = .inr 3) s.Held.length (by
    rintro i a hi ⟨rfl, hj⟩
    simp only [spec_l18Held_s3, decide_eq_true_eq]
    rcases Nat.lt_or_ge i s.Held.length with h | h
    · obtain ⟨x, hx, hm⟩ := get_lt h
      obtain ⟨r, r1, r2, r3⟩ := head_same (hd x hm)
      rw [if_pos (by omega), getI_nat, hx]
      simp only [Option.bind_some, spec_l1In_eq, w8, r1, decide_eq_true_eq]
      by_cases hin : s.Next ≤ x.Number ∧ x.Number ≤ s.Next + 8
      · rw [if_pos hin]
        by_cases hq : spec_l18Held_u2 x.Number x.Side x.Data r.Code r.Head.Number r.Head.Size r.Head.Side r.Head.Spread r.Head.Mask r.Head.Intra s.Size s.Next s.Held s.A.Known s.A.Number s.A.Rung s.A.Gains s.B.Known s.B.Number s.B.Rung s.B.Gains s.Synth.Size s.Synth.Head s.Synth.Tail s.Last s.Lost (i : Int) = true
        · rw [if_pos hq]; exact .inr ⟨_, rfl, .inr (.inl rfl)⟩
        · rw [if_neg hq, w64 (by omega)]
          refine .inl ⟨h, _, rfl, by simp, fun j y hj' hy => ?_⟩
          rcases Nat.lt_or_ge j i with hji | hji
          · exact hj j y hji hy
          · obtain rfl : j = i := by omega
            rw [hx] at hy; obtain rfl := Option.some.inj hy
            unfold spec_l18Held_u2 at hq
            by_cases q1 : r.Code = 0
            · by_cases q2 : r.Head.Number = x.Number
              · by_cases q3 : r.Head.Side = x.Side
                · exact ⟨hin, by rw [← q3]; exact (r3 q1).1⟩
                · simp [q1, q2, q3] at hq
              · simp [q1, q2] at hq
            · simp [q1] at hq
      · rw [if_neg hin]; exact .inr ⟨_, rfl, .inr (.inr rfl)⟩
    · rw [if_neg (by omega)]
      refine .inr ⟨_, rfl, .inl ⟨rfl, fun x hx => ?_⟩⟩
      obtain ⟨j, hj'⟩ := List.getElem?_of_mem hx
      exact hj j x (by have := (List.getElem?_eq_some_iff.1 hj').1; omega) hj') (s := 0) ⟨rfl, fun j x hj => by omega⟩
  rw [h1] at h0
  rcases h3 with ⟨rfl, hok⟩ | rfl | rfl
  · simp only [Option.bind_some, Sum.elim_inl] at h0
    obtain ⟨t, g1, g2⟩ := loop_rule (step := spec_l18Held_s4 s.Size s.Next s.Held s.A.Known s.A.Number s.A.Rung s.A.Gains s.B.Known s.B.Number s.B.Rung s.B.Gains s.Synth.Size s.Synth.Head s.Synth.Tail s.Last s.Lost)
        (fun i a => a = (i : Int) + 1 ∧ ∀ (j : Nat) (x y : SHeld), j < i → s.Held[j]? = some x → s.Held[j + 1]? = some y → place x < place y) (fun t => (t = .inl () ∧ ∀ (j : Nat) (x y : SHeld), s.Held[j]? = some x → s.Held[j + 1]? = some y → place x < place y) ∨ t = .inr ()) s.Held.length (by
      rintro i a hi ⟨rfl, hj⟩
      simp only [spec_l18Held_s4, decide_eq_true_eq]
      rcases Nat.lt_or_ge (i + 1) s.Held.length with h | h
      · obtain ⟨x, hx, hm⟩ := get_lt (l := s.Held) (i := i) (by omega)
        obtain ⟨y, hy, hm'⟩ := get_lt h
        have e1 : IntKind.i64.wrap ((i : Int) + 1 - 1) = (i : Int) := by rw [w64 (by omega)]; omega
        have e2 : ((i : Int) + 1) = ((i + 1 : Nat) : Int) := by omega
        rw [if_pos (by omega), e1, getI_nat, hx]
        simp only [Option.bind_some, e2, getI_nat, hy, place_eq hn (hok x hm), place_eq hn (hok y hm')]
        by_cases hk : place x ≥ place y
        · rw [if_pos hk]; exact .inr ⟨_, rfl, .inr rfl⟩
        · rw [if_neg hk, w64 (by omega)]
          refine .inl ⟨by omega, _, rfl, by omega, fun j x' y' hj' hx' hy' => ?_⟩
          rcases Nat.lt_or_ge j i with hji | hji
          · exact hj j x' y' hji hx' hy'
          · obtain rfl : j = i := by omega
            rw [hx] at hx'; rw [hy] at hy'
            obtain rfl := Option.some.inj hx'; obtain rfl := Option.some.inj hy'
            omega
      · rw [if_neg (by omega)]
        refine .inr ⟨_, rfl, .inl ⟨rfl, fun j x y hx hy => ?_⟩⟩
        have := (List.getElem?_eq_some_iff.1 hy).1
        exact hj j x y (by omega) hx hy) (s := 1) ⟨by simp, fun j x y hj => by omega⟩
    rw [g1] at h0
    rcases g2 with ⟨rfl, g2⟩ | rfl
    · exact ⟨hok, g2⟩
    · simp at h0
  · simp at h0
  · simp at h0
theorem receiver_ok {s : SReceiver} (w : s.Wf) (h : spec_ReceiverFault s = some 0) : (0 ≤ s.Next ∧ s.Next ≤ 10000) ∧ s.Held.length ≤ 18 ∧ HeldIn s := by
  obtain ⟨_, _, ⟨w0, w1⟩, ⟨_, _, _, w3, _⟩, ⟨_, _, _, w4, _⟩, ⟨_, ⟨w5, _⟩, ⟨w6, _⟩⟩, ⟨w7, _⟩, _⟩ := w
  obtain ⟨c1, p1, q1⟩ := synth_same (s := s.Synth) w5 w6
  obtain ⟨c2, p2, q2⟩ := anchor_same (s := s.A) w3
  obtain ⟨c3, p3, q3⟩ := anchor_same (s := s.B) w4
  unfold spec_ReceiverFault at h
  simp only [Option.bind_some, spec_ReceiverFault_u1, spec_ReceiverFault_u2, spec_l1In_eq, l1All_all w7, p1, p2, p3, decide_eq_true_eq] at h
  generalize (s.Last.all fun x => decide (-16777216 ≤ x ∧ x ≤ 16777216)) = A at h
  rcases size_cases (n := s.Size) with hz | hz
  · simp only [hz] at h
    by_cases hn : 0 ≤ s.Next ∧ s.Next ≤ 10000
    · by_cases k3 : 0 ≤ s.Lost ∧ s.Lost ≤ 100
      · by_cases k2 : (s.Held.length : Int) > 18
        · simp [hn, k2, k3] at h
        · refine ⟨hn, by omega, held_in hn w0 (fun x hx b hb => wfU8.1 ((w1 x hx).2.2.2 b hb)) ?_⟩
          obtain ⟨c4, p4, q4⟩ := held_same hn w0 (fun x hx b hb => wfU8.1 ((w1 x hx).2.2.2 b hb))
          rw [p4] at h ⊢
          by_cases k4 : (s.Last.length : Int) = s.Size
          · cases A
            · simp [hn, k2, k3, k4] at h
            · by_cases m1 : c1 = 0
              · by_cases k5 : s.Synth.Size = s.Size
                · by_cases m2 : c2 = 0
                  · by_cases m3 : c3 = 0
                    · simpa [hn, k2, k3, k4, m1, m2, m3, k5] using h
                    · simp [hn, k2, k3, k4, m1, m2, m3, k5] at h
                  · simp [hn, k2, k3, k4, m1, m2, k5] at h
                · simp [hn, k2, k3, k4, m1, k5] at h
              · simp [hn, k2, k3, k4, m1] at h
          · simp [hn, k2, k3, k4] at h
      · simp [hn, k3] at h
    · simp [hn] at h
  · simp [hz] at h
theorem l1Copy_eq {l : List Int} (h : (l.length : Int) ≤ 1048576) : spec_l1Copy l = some l := by
  unfold spec_l1Copy; rw [if_pos (okApp_of (by omega))]
theorem cloneB_eq {l : List Int} (h : (l.length : Int) ≤ 1048576) : slices_Clone_byte l = some l := by
  unfold slices_Clone_byte; rw [if_pos (okApp_of (by omega))]
theorem l1Ints_eq {l : List Int} (h : (l.length : Int) ≤ 1048576) : spec_l1Ints l = some l := by
  unfold spec_l1Ints; rw [if_pos (okApp_of (by omega))]
theorem cloneI_eq {l : List Int} (h : (l.length : Int) ≤ 1048576) : slices_Clone_int64 l = some l := by
  unfold slices_Clone_int64; rw [if_pos (okApp_of (by omega))]
theorem take_snoc {α : Type} {l : List α} {i : Nat} {x : α} (h : l[i]? = some x) : l.take i ++ [x] = l.take (i + 1) := by
  rw [List.take_add_one, h]; rfl
theorem copy_same {s : SReceiver} (h : RecvOk s) : spec_l18Copy s = some s ∧ impl_Receiver_clone s = some s := by
  have hh := h.held
  constructor
  · unfold spec_l18Copy spec_l18Copy_u1 spec_l16Copy spec_l7SynthCopy
    simp only [l1Ints_eq h.a, l1Ints_eq h.b, l1Ints_eq h.head, l1Ints_eq h.tail, l1Ints_eq h.last, Option.bind_some]
    obtain ⟨t, h1, rfl⟩ := loop_rule (step := spec_l18Copy_s2 s.Size s.Next s.A.Known s.A.Number s.A.Rung s.B.Known s.B.Number s.B.Rung s.Synth.Size s.Lost s.A.Gains s.B.Gains s.Synth.Head s.Synth.Tail s.Last s.Held s.A.Known s.A.Number s.A.Rung s.A.Gains s.B.Known s.B.Number s.B.Rung s.B.Gains s.Synth.Size s.Synth.Head s.Synth.Tail s.Last)
      (fun i a => a = (s.Held.take i, (i : Int))) (fun t => t = s.Held) s.Held.length (by
      rintro i a hi rfl
      simp only [spec_l18Copy_s2, decide_eq_true_eq]
      rcases Nat.lt_or_ge i s.Held.length with g | g
      · obtain ⟨x, hx, hm⟩ := get_lt g
        rw [if_pos (by omega), getI_nat, hx]
        simp only [Option.bind_some, l1Copy_eq (h.data x hm)]
        rw [if_pos (okApp_of (by simp; omega)), w64 (by omega)]
        exact .inl ⟨g, _, rfl, by rw [take_snoc hx]; simp⟩
      · rw [if_neg (by omega)]; exact .inr ⟨_, rfl, List.take_of_length_le g⟩) (s := ([], 0)) (by simp)
    rw [h1]; rfl
  · unfold impl_Receiver_clone impl_Anchor_clone impl_Synth_clone
    simp only [cloneI_eq h.a, cloneI_eq h.b, cloneI_eq h.head, cloneI_eq h.tail, cloneI_eq h.last, Option.bind_some]
    obtain ⟨t, h1, rfl⟩ := loop_rule (step := impl_Receiver_clone_s1 s.Size s.Next s.A.Known s.A.Number s.A.Rung s.A.Gains s.B.Known s.B.Number s.B.Rung s.B.Gains s.Synth.Size s.Synth.Head s.Synth.Tail s.Last s.Lost s.Held (s.Held.length : Int))
      (fun i a => a = (s.Held.take i, (i : Int))) (fun t => t = s.Held) s.Held.length (by
      rintro i a hi rfl
      simp only [impl_Receiver_clone_s1, decide_eq_true_eq]
      rcases Nat.lt_or_ge i s.Held.length with g | g
      · obtain ⟨x, hx, hm⟩ := get_lt g
        rw [if_pos (by omega), getI_nat, hx]
        simp only [Option.bind_some, cloneB_eq (h.data x hm)]
        rw [if_pos (okApp_of (by simp; omega)), w64 (by omega)]
        exact .inl ⟨g, _, rfl, by rw [take_snoc hx]; simp⟩
      · rw [if_neg (by omega)]; exact .inr ⟨_, rfl, List.take_of_length_le g⟩) (s := ([], 0)) (by simp)
    rw [h1]; rfl
def lexLt (x y : SHeld) : Prop := x.Number < y.Number ∨ (x.Number = y.Number ∧ x.Side < y.Side)
instance (x y : SHeld) : Decidable (lexLt x y) := by unfold lexLt; infer_instance
theorem lexLt_trans {x y z : SHeld} (h : lexLt x y) (k : lexLt y z) : lexLt x z := by unfold lexLt at *; omega
def cmpI (x y : SHeld) : Int := if cmp_Compare_int64 x.Number y.Number ≠ 0 then cmp_Compare_int64 x.Number y.Number else cmp_Compare_int64 x.Side y.Side
theorem cmpI_lt {x y : SHeld} : cmpI x y < 0 ↔ lexLt x y := by
  unfold cmpI lexLt
  rw [cmp_eq, cmp_eq]
  by_cases c1 : x.Number < y.Number
  · simp [c1]
  · by_cases c2 : x.Number > y.Number
    · simp [c1, c2]; omega
    · by_cases c3 : x.Side < y.Side
      · simp [c1, c2, c3]; omega
      · by_cases c4 : x.Side > y.Side
        · simp [c1, c2, c3, c4]
        · simp [c1, c2, c3, c4]
theorem cmpI_eq {x y : SHeld} : cmpI x y = 0 ↔ x.Number = y.Number ∧ x.Side = y.Side := by
  unfold cmpI
  rw [cmp_eq, cmp_eq]
  by_cases c1 : x.Number < y.Number
  · simp [c1]; omega
  · by_cases c2 : x.Number > y.Number
    · simp [c1, c2]; omega
    · by_cases c3 : x.Side < y.Side
      · simp [c1, c2, c3]; omega
      · by_cases c4 : x.Side > y.Side
        · simp [c1, c2, c3, c4]; omega
        · simp [c1, c2, c3, c4]; omega
theorem mid_eq {F G n : Nat} (h : F < G) (hg : G ≤ n) (hn : n ≤ 1048576) : IntKind.i64.wrap (((IntKind.u64.wrap (IntKind.i64.wrap ((F : Int) + (G : Int))))).fdiv (2 ^ (min 1 64))) = (((F + G) / 2 : Nat) : Int) := by
  have e1 : IntKind.i64.wrap ((F : Int) + (G : Int)) = ((F + G : Nat) : Int) := by rw [w64 (by omega)]; omega
  have e2 : IntKind.u64.wrap ((F + G : Nat) : Int) = ((F + G : Nat) : Int) := by simp [IntKind.wrap, IntKind.bits, IntKind.signed]; omega
  rw [e1, e2]
  have : (((F + G : Nat) : Int)).fdiv (2 ^ (min 1 64)) = (((F + G) / 2 : Nat) : Int) := by
    rw [show (min 1 64) = 1 by rfl, fdiv_pow (by omega), Int.toNat_natCast, Nat.pow_one]
  rw [this, w64 (by omega)]
theorem search_eq {l : List SHeld} {h : SHeld} (hl : l.length ≤ 1048576) (hm : ∀ (i j : Nat) (x y : SHeld), i < j → l[i]? = some x → l[j]? = some y → lexLt x y) :
    ∃ (k : Nat) (b : Bool), slices_BinarySearchFunc_Held_impl_compareHeld l h = some ((k : Int), b) ∧ k ≤ l.length ∧ (∀ (j : Nat) (x : SHeld), j < k → l[j]? = some x → lexLt x h) ∧ (∀ (j : Nat) (x : SHeld), k ≤ j → l[j]? = some x → ¬ lexLt x h) ∧
      (b = true ↔ ∃ x, l[k]? = some x ∧ x.Number = h.Number ∧ x.Side = h.Side) := by
  unfold slices_BinarySearchFunc_Held_impl_compareHeld
  have eh : SHeld.mk h.Number h.Side h.Data = h := rfl
  obtain ⟨t, h1, k, rfl, hk, h2, h3⟩ := loop_rule (step := slices_BinarySearchFunc_Held_impl_compareHeld_s3 h.Number h.Side h.Data l (l.length : Int))
    (fun i a => ∃ F G : Nat, a = ((F : Int), (G : Int)) ∧ F ≤ G ∧ G ≤ l.length ∧ G - F + i ≤ l.length ∧ (∀ (j : Nat) (x : SHeld), j < F → l[j]? = some x → lexLt x h) ∧ (∀ (j : Nat) (x : SHeld), G ≤ j → l[j]? = some x → ¬ lexLt x h))
    (fun t => ∃ k : Nat, t = (k : Int) ∧ k ≤ l.length ∧ (∀ (j : Nat) (x : SHeld), j < k → l[j]? = some x → lexLt x h) ∧ (∀ (j : Nat) (x : SHeld), k ≤ j → l[j]? = some x → ¬ lexLt x h)) l.length (by
      rintro i a hi ⟨F, G, rfl, q1, q2, q3, q4, q5⟩
      simp only [slices_BinarySearchFunc_Held_impl_compareHeld_s3, decide_eq_true_eq]
      rcases Nat.lt_or_ge F G with g | g
      · rw [if_pos (by omega), mid_eq g q2 hl]
        have hmid : (F + G) / 2 < l.length := by omega
        obtain ⟨x, hx, _⟩ := get_lt hmid
        rw [getI_nat, hx]
        simp only [Option.bind_some, cmpHeld_eq, eh]
        change (i < l.length ∧ ∃ s', some (Sum.inl (slices_BinarySearchFunc_Held_impl_compareHeld_u2 h.Number h.Side h.Data l (l.length : Int) (F : Int) (G : Int) (((F + G) / 2 : Nat) : Int) (decide (cmpI x h < 0)))) = some (Sum.inl s') ∧ _) ∨ _
        left
        refine ⟨by omega, _, rfl, ?_⟩
        unfold slices_BinarySearchFunc_Held_impl_compareHeld_u2
        by_cases hc : lexLt x h
        · rw [if_pos (by rw [decide_eq_true_eq]; exact cmpI_lt.2 hc), w64 (by omega)]
          refine ⟨(F + G) / 2 + 1, G, by simp, by omega, q2, by omega, fun j y hj hy => ?_, q5⟩
          rcases Nat.lt_or_ge j ((F + G) / 2) with hj' | hj'
          · exact lexLt_trans (hm _ _ y x hj' hy hx) hc
          · obtain rfl : j = (F + G) / 2 := by omega
            rw [hx] at hy; obtain rfl := Option.some.inj hy; exact hc
        · rw [if_neg (by rw [decide_eq_true_eq]; exact fun z => hc (cmpI_lt.1 z))]
          refine ⟨F, (F + G) / 2, rfl, by omega, by omega, by omega, q4, fun j y hj hy => ?_⟩
          rcases Nat.lt_or_ge ((F + G) / 2) j with hj' | hj'
          · exact fun z => hc (lexLt_trans (hm _ _ x y hj' hx hy) z)
          · obtain rfl : j = (F + G) / 2 := by omega
            rw [hx] at hy; obtain rfl := Option.some.inj hy; exact hc
      · rw [if_neg (by omega)]
        obtain rfl : F = G := by omega
        exact .inr ⟨_, rfl, F, rfl, q2, q4, q5⟩) (s := (0, (l.length : Int))) ⟨0, l.length, rfl, by omega, by omega, by omega, fun j x hj => by omega, fun j x hj hx => by have := (List.getElem?_eq_some_iff.1 hx).1; omega⟩
  rw [h1]
  simp only [Option.bind_some, slices_BinarySearchFunc_Held_impl_compareHeld_u4, decide_eq_true_eq, eh]
  rcases Nat.lt_or_ge k l.length with g | g
  · obtain ⟨x, hx, _⟩ := get_lt g
    rw [if_pos (by omega), getI_nat, hx]
    simp only [Option.bind_some, cmpHeld_eq]
    refine ⟨k, _, rfl, hk, h2, h3, ?_⟩
    change (cmpI x h == 0) = true ↔ _
    rw [beq_iff_eq, cmpI_eq, hx]
    constructor
    · exact fun z => ⟨x, rfl, z⟩
    · rintro ⟨y, e, z⟩; obtain rfl := Option.some.inj e; exact z
  · rw [if_neg (by omega)]
    refine ⟨k, false, rfl, hk, h2, h3, ?_⟩
    constructor
    · exact fun z => by simp at z
    · rintro ⟨x, hx, _⟩; have := (List.getElem?_eq_some_iff.1 hx).1; omega
theorem place_all {s : SReceiver} (h : HeldIn s) : ∀ (d i : Nat) (x y : SHeld), s.Held[i]? = some x → s.Held[i + d + 1]? = some y → place x < place y := by
  intro d
  induction d with
  | zero => exact fun i x y hx hy => h.2 i x y hx hy
  | succ d ih =>
    intro i x y hx hy
    have hl := (List.getElem?_eq_some_iff.1 hy).1
    obtain ⟨z, hz, _⟩ := get_lt (l := s.Held) (i := i + d + 1) (by omega)
    exact Int.lt_trans (ih i x z hx hz) (h.2 (i + d + 1) z y hz hy)
theorem lex_place {s : SReceiver} {x y : SHeld} (hx : HeldOk s x) (hy : 0 ≤ y.Side ∧ y.Side ≤ 1) : lexLt x y ↔ place x < place y := by
  unfold lexLt place HeldOk at *; omega
theorem lex_all {s : SReceiver} (h : HeldIn s) (i j : Nat) (x y : SHeld) (hij : i < j) (hx : s.Held[i]? = some x) (hy : s.Held[j]? = some y) : lexLt x y := by
  refine (lex_place (h.1 x (List.mem_of_getElem? hx)) (h.1 y (List.mem_of_getElem? hy)).2).2 ?_
  have e : j = i + (j - i - 1) + 1 := by omega
  rw [e] at hy
  exact place_all h _ i x y hx hy
/-- What is held behind a packet that was heard. -/
def Heard (s : SReceiver) (b : List Int) (r : Int × (List SHeld) × (List Int) × (List Int) × (List Int) × (List Int) × (List Int)) : Prop :=
  r.2.2 = (s.A.Gains, s.B.Gains, s.Synth.Head, s.Synth.Tail, s.Last) ∧ (r.2.1 = s.Held ∨ ∃ (k : Nat) (x : SHeld), x.Data = b ∧ r.2.1 = s.Held.take k ++ (x :: s.Held.drop k))
theorem hear_same {s : SReceiver} (ok : RecvOk s) (hn : 0 ≤ s.Next ∧ s.Next ≤ 10000) (hh : s.Held.length ≤ 18) (hin : HeldIn s) {b : List Int} (hb : ∀ x ∈ b, 0 ≤ x ∧ x ≤ 255) (hl : (b.length : Int) ≤ 1048576) :
    ∃ r, spec_l18Hear_oooooo s b = some r ∧ impl_Receiver_hear_oooooo s b = some r ∧ Heard s b r := by
  obtain ⟨c, c1, c2, c3⟩ := head_same hb
  obtain ⟨k, f, g1, g2, g3, g4, g5⟩ := search_eq (l := s.Held) (h := SHeld.mk c.Head.Number c.Head.Side []) (by omega) (lex_all hin)
  have w8 : IntKind.i64.wrap (s.Next + 8) = s.Next + 8 := w64 (by omega)
  unfold spec_l18Hear_oooooo impl_Receiver_hear_oooooo
  rw [c1, c2]
  simp only [Option.bind_some, g1, w8, decide_eq_true_eq]
  by_cases q1 : (c.Code != 0) = true
  · rw [if_pos q1, if_pos q1]; exact ⟨_, rfl, rfl, rfl, .inl rfl⟩
  rw [if_neg q1, if_neg q1]
  by_cases q2 : (c.Head.Size != s.Size) = true
  · rw [if_pos q2, if_pos q2]; exact ⟨_, rfl, rfl, rfl, .inl rfl⟩
  rw [if_neg q2, if_neg q2]
  by_cases q3 : c.Head.Number < s.Next
  · rw [if_pos q3, if_pos q3]; exact ⟨_, rfl, rfl, rfl, .inl rfl⟩
  rw [if_neg q3, if_neg q3]
  by_cases q4 : c.Head.Number > s.Next + 8
  · rw [if_pos q4, if_pos q4]; exact ⟨_, rfl, rfl, rfl, .inl rfl⟩
  rw [if_neg q4, if_neg q4]
  obtain ⟨c4, c5⟩ := c3 (by simpa using q1)
  have hp : spec_l18Place (SHeld.mk c.Head.Number c.Head.Side b) = place (SHeld.mk c.Head.Number c.Head.Side b) := by
    unfold spec_l18Place place; simp only; rw [w64 (n := 2 * c.Head.Number) (by omega), w64 (by omega)]
  have hlt : ∀ x ∈ s.Held, (spec_l18Place x < place (SHeld.mk c.Head.Number c.Head.Side b)) ↔ lexLt x (SHeld.mk c.Head.Number c.Head.Side []) := fun x hx => by
    rw [place_eq hn (hin.1 x hx), lex_place (y := SHeld.mk c.Head.Number c.Head.Side []) (hin.1 x hx) c4]; exact Iff.rfl
  have heq : ∀ x ∈ s.Held, (spec_l18Place x = place (SHeld.mk c.Head.Number c.Head.Side b)) ↔ (x.Number = c.Head.Number ∧ x.Side = c.Head.Side) := fun x hx => by
    rw [place_eq hn (hin.1 x hx)]
    have := hin.1 x hx
    unfold HeldOk at this
    unfold place
    simp only
    omega
  simp only [spec_l18Hear_oooooo_u1, l1Copy_eq hl, Option.bind_some]
  obtain ⟨t, h1, rfl⟩ := loop_rule (step := spec_l18Hear_oooooo_s4 c.Head.Number c.Head.Side b s.Held s.A.Gains s.B.Gains s.Synth.Head s.Synth.Tail s.Last s.Size s.Next s.A.Known s.A.Number s.A.Rung s.B.Known s.B.Number s.B.Rung s.Synth.Size s.Lost)
    (fun i a => a = (i : Int) ∧ i ≤ k) (fun t => t = (k : Int)) k (by
      rintro i a hi ⟨rfl, _⟩
      simp only [spec_l18Hear_oooooo_s4, spec_l18Hear_oooooo_u3, decide_eq_true_eq]
      rcases Nat.lt_or_ge i s.Held.length with g | g
      · obtain ⟨x, hx, hm⟩ := get_lt g
        rw [if_pos (by omega), getI_nat, hx, Int.toNat_natCast, hx]
        simp only [Option.bind_some, hp, decide_eq_true_eq]
        rcases Nat.lt_or_ge i k with hik | hik
        · rw [if_pos ((hlt x hm).2 (g3 i x hik hx)), w64 (by omega)]
          exact .inl ⟨hik, _, rfl, by omega, by omega⟩
        · rw [if_neg fun z => g4 i x hik hx ((hlt x hm).1 z)]
          exact .inr ⟨_, rfl, by omega⟩
      · rw [if_neg (by omega)]
        simp only [Option.bind_some, Bool.false_eq_true, if_false]
        exact .inr ⟨_, rfl, by omega⟩) (s := 0) ⟨rfl, by omega⟩
  rw [h1]
  have hu : spec_l18Hear_oooooo_u5 c.Head.Number c.Head.Side b s.Held s.A.Gains s.B.Gains s.Synth.Head s.Synth.Tail s.Last s.Size s.Next s.A.Known s.A.Number s.A.Rung s.B.Known s.B.Number s.B.Rung s.Synth.Size s.Lost (k : Int) = some f := by
    simp only [spec_l18Hear_oooooo_u5, decide_eq_true_eq]
    rcases Nat.lt_or_ge k s.Held.length with g | g
    · obtain ⟨x, hx, hm⟩ := get_lt g
      rw [if_pos (by omega), getI_nat, hx, Int.toNat_natCast, hx]
      simp only [Option.bind_some, hp, Option.some.injEq]
      rw [Bool.eq_iff_iff, g5, beq_iff_eq, heq x hm, hx]
      constructor
      · exact fun z => ⟨x, rfl, z⟩
      · rintro ⟨y, e, z⟩; obtain rfl := Option.some.inj e; exact z
    · rw [if_neg (by omega)]
      congr 1
      rw [Bool.eq_iff_iff, g5]
      constructor
      · exact fun z => by simp at z
      · rintro ⟨x, hx, _⟩; have := (List.getElem?_eq_some_iff.1 hx).1; omega
  simp only [Option.bind_some, hu]
  cases f with
  | true => simp only [if_true]; exact ⟨_, rfl, rfl, rfl, .inl rfl⟩
  | false =>
    simp only [Bool.false_eq_true, if_false, cloneB_eq hl, Option.bind_some, Int.toNat_natCast]
    have t1 : cutT s.Held.length 0 (k : Int) = some () := by unfold cutT cutI; rw [if_pos (by omega), if_pos (by simp)]; rfl
    have t2 : cutT s.Held.length (k : Int) (s.Held.length : Int) = some () := by unfold cutT cutI; rw [if_pos (by omega), if_pos (by simp; omega)]; rfl
    have hok : okIns 40 s.Held.length [SHeld.mk c.Head.Number c.Head.Side b].length (k : Int) = true := by
      unfold okIns; simp only [List.length_singleton, decide_eq_true_eq]; refine ⟨by omega, by omega, trivial, ?_⟩; have : max 1 40 = 40 := rfl; rw [this]; omega
    have e1 : (s.Held.drop k).take (s.Held.length - k) = s.Held.drop k := List.take_of_length_le (by simp)
    simp only [t1, t2, Option.bind_some, e1]
    rw [if_pos (okApp_of (by simp; omega)), if_pos (okApp_of (by simp; omega)), if_pos (okApp_of (by simp; omega))]
    unfold slices_Insert_Held
    rw [if_pos hok]
    simp only [Option.bind_some, Int.toNat_natCast, List.append_assoc]
    exact ⟨_, rfl, rfl, rfl, .inr ⟨k, _, rfl, rfl⟩⟩
def totH (l : List SHeld) : Int := ((l.map fun x => x.Data.length + 2).sum : Nat)
theorem totH_cons {x : SHeld} {l : List SHeld} : totH (x :: l) = (x.Data.length : Int) + 2 + totH l := by simp [totH]
theorem totH_nn {l : List SHeld} : 0 ≤ totH l := by unfold totH; omega
theorem markHeldS_go : ∀ (r p : List SHeld) (k : Int), 0 ≤ k → k + totH r ≤ 9223372036854775807 → p.length + r.length ≤ 2000000 →
    ∃ r', loopO laws_markHeldS_s1 (p ++ r, k, (p.length : Int)) = some (p ++ r', k + totH r) ∧ r'.length = r.length ∧
      ∀ p' : List SHeld, p'.length = p.length → loopO (laws_heldHeldS_s1 (p' ++ r')) (k, (p.length : Int)) = some (.inl (k + totH r))
  | [], p, k, h1, h2, h3 => by
    rw [loopO_eq]
    simp only [laws_markHeldS_s1, decide_eq_true_eq]
    rw [if_neg (by simp)]
    refine ⟨[], by simp [totH], rfl, fun p' hp => ?_⟩
    rw [loopO_eq]
    simp only [laws_heldHeldS_s1, decide_eq_true_eq]
    rw [if_neg (by simp; omega)]
    simp [totH]
  | x :: r, p, k, h1, h2, h3 => by
    rw [totH_cons] at h2
    have tn := totH_nn (l := r)
    simp at h3
    obtain ⟨d, m1, m2, m3⟩ := laws_markByteS_eq (l := x.Data) (k := k + 1 + 1) (by omega) (by unfold maxI; omega)
    obtain ⟨r', q1, q2, q3⟩ := markHeldS_go r (p ++ [SHeld.mk k (k + 1) d]) (k + ((x.Data.length : Int) + 2)) (by omega) (by omega) (by simp; omega)
    have w1 : IntKind.i64.wrap (k + 1) = k + 1 := w64 (by omega)
    have w2 : IntKind.i64.wrap (k + 1 + 1) = k + 1 + 1 := w64 (by omega)
    have e2 : IntKind.i64.wrap ((p.length : Int) + 1) = ((p ++ [SHeld.mk k (k + 1) d]).length : Int) := by rw [w64 (by omega)]; simp
    refine ⟨SHeld.mk k (k + 1) d :: r', ?_, by simp [q2], fun p' hp => ?_⟩
    · rw [loopO_eq]
      simp only [laws_markHeldS_s1, decide_eq_true_eq]
      have g : ∀ y, (p ++ y :: r)[p.length]? = some y := fun y => by simp
      have st : ∀ y z, (p ++ y :: r).set p.length z = p ++ z :: r := fun y z => by simp
      rw [if_pos (by simp; omega)]
      simp only [getI_nat, Int.toNat_natCast, g, st, Option.bind_some, w1, w2, m1, m2, if_true, e2]
      have e1 : p ++ SHeld.mk k (k + 1) d :: r = (p ++ [SHeld.mk k (k + 1) d]) ++ r := by simp
      have e3 : k + 1 + 1 + (x.Data.length : Int) = k + ((x.Data.length : Int) + 2) := by omega
      rw [e1, e3, q1, totH_cons, List.append_assoc, Int.add_assoc]; rfl
    · rw [loopO_eq]
      simp only [laws_heldHeldS_s1, decide_eq_true_eq]
      have g : (p' ++ SHeld.mk k (k + 1) d :: r')[p.length]? = some (SHeld.mk k (k + 1) d) := by rw [← hp]; simp
      rw [if_pos (by simp; omega)]
      simp only [getI_nat, g, Option.bind_some, w1, w2, m3, bne_self_eq_false, Bool.false_eq_true, if_false, e2]
      rw [if_neg (by omega)]
      have q := q3 (p' ++ [SHeld.mk k (k + 1) d]) (by simp [hp])
      have e3 : k + 1 + 1 + (x.Data.length : Int) = k + ((x.Data.length : Int) + 2) := by omega
      simp only []
      rw [List.append_assoc] at q
      rw [totH_cons, e3, show k + ((x.Data.length : Int) + 2 + totH r) = k + ((x.Data.length : Int) + 2) + totH r by omega]
      exact q
theorem markHeldS_eq {l : List SHeld} {k : Int} (h1 : 0 ≤ k) (h2 : k + totH l ≤ 9223372036854775807) (h3 : l.length ≤ 2000000) : ∃ l', laws_markHeldS l k = some (k + totH l, l') ∧ l'.length = l.length ∧ laws_heldHeldS l' k = some (k + totH l) := by
  obtain ⟨l', q1, q2, q3⟩ := markHeldS_go l [] k h1 h2 (by simp; omega)
  have q := q3 [] rfl
  simp only [List.nil_append, List.length_nil] at q q1
  refine ⟨l', ?_, q2, ?_⟩
  · unfold laws_markHeldS
    exact (congrArg (fun o => Option.bind o _) q1).trans rfl
  · unfold laws_heldHeldS
    exact (congrArg (fun o => Option.bind o _) q).trans rfl
theorem totH_le : ∀ {l : List SHeld} {c : Nat}, (∀ x ∈ l, x.Data.length ≤ c) → totH l ≤ ((c + 2) * l.length : Nat)
  | [], c, _ => by simp [totH]
  | x :: l, c, h => by
    have := totH_le (l := l) (c := c) fun y hy => h y (List.mem_cons_of_mem _ hy)
    have hx := h x List.mem_cons_self
    rw [totH_cons, List.length_cons, Nat.mul_succ]
    omega
/-- A receiver that is small enough to be marked. -/
structure RecvSmall (s : SReceiver) : Prop where
  held : s.Held.length ≤ 2000000
  data : ∀ x ∈ s.Held, x.Data.length ≤ 1048576
  a : s.A.Gains.length ≤ 1048576
  b : s.B.Gains.length ≤ 1048576
  head : s.Synth.Head.length ≤ 1048576
  tail : s.Synth.Tail.length ≤ 1048576
  last : s.Last.length ≤ 1048576
def cntR (s : SReceiver) : Int := totH s.Held + s.A.Gains.length + s.B.Gains.length + s.Synth.Head.length + s.Synth.Tail.length + s.Last.length
theorem cntR_le {s : SReceiver} (h : RecvSmall s) : 0 ≤ cntR s ∧ cntR s ≤ 2200000000000 := by
  have h1 := totH_le h.data
  have h2 : (1048576 + 2) * s.Held.length ≤ 1048578 * 2000000 := Nat.mul_le_mul_left _ h.held
  have h3 := totH_nn (l := s.Held)
  obtain ⟨_, _, _, _, _, _, _⟩ := h
  unfold cntR; omega
theorem markReceiver_eq {s : SReceiver} {k : Int} (sm : RecvSmall s) (hk : 0 ≤ k) (hk2 : k ≤ 1152921504606846976) : ∃ s', laws_markReceiver_oooooo s k = some (k + cntR s, s') ∧ s'.Held.length = s.Held.length ∧ s'.A.Gains.length = s.A.Gains.length ∧ s'.B.Gains.length = s.B.Gains.length ∧ s'.Synth.Head.length = s.Synth.Head.length ∧ s'.Synth.Tail.length = s.Synth.Tail.length ∧ s'.Last.length = s.Last.length ∧
    ∀ a b c d e f g i j l, laws_heldReceiver ⟨a, b, s'.Held, ⟨c, d, e, s'.A.Gains⟩, ⟨f, g, i, s'.B.Gains⟩, ⟨j, s'.Synth.Head, s'.Synth.Tail⟩, s'.Last, l⟩ k = some (k + cntR s) := by
  have hc := cntR_le sm
  have ht := totH_nn (l := s.Held)
  have hs := sm.held
  unfold cntR at hc ⊢
  unfold laws_markReceiver_oooooo
  obtain ⟨z, z1, z2, z3⟩ := markHeldS_eq (l := s.Held) (k := k) hk (by omega) hs
  obtain ⟨a, a1, a2, a3⟩ := markAnchor_eq (s := s.A) (k := k + totH s.Held) (by omega) (by unfold maxI; omega)
  obtain ⟨b, b1, b2, b3⟩ := markAnchor_eq (s := s.B) (k := k + totH s.Held + s.A.Gains.length) (by omega) (by unfold maxI; omega)
  obtain ⟨c, c1, c2, c3, c4⟩ := markSynth_eq (s := s.Synth) (k := k + totH s.Held + s.A.Gains.length + s.B.Gains.length) (by omega) (by unfold maxI; omega)
  obtain ⟨d, d1, d2, d3⟩ := laws_markInt64S_eq (l := s.Last) (k := k + totH s.Held + s.A.Gains.length + s.B.Gains.length + s.Synth.Head.length + s.Synth.Tail.length) (by omega) (by unfold maxI; omega)
  simp only [z1, z2, a1, a2, b1, b2, c1, c2, c3, d1, d2, Option.bind_some, if_true, and_self]
  refine ⟨_, by rw [show k + totH s.Held + (s.A.Gains.length : Int) + s.B.Gains.length + s.Synth.Head.length + s.Synth.Tail.length + s.Last.length = k + (totH s.Held + s.A.Gains.length + s.B.Gains.length + s.Synth.Head.length + s.Synth.Tail.length + s.Last.length) by omega], z2, a2, b2, c2, c3, d2, ?_⟩
  intros
  unfold laws_heldReceiver
  have e0 : ¬ (k + totH s.Held < 0) := by omega
  have e1 : ¬ (k + totH s.Held + (s.A.Gains.length : Int) < 0) := by omega
  have e2 : ¬ (k + totH s.Held + (s.A.Gains.length : Int) + s.B.Gains.length < 0) := by omega
  have e3 : ¬ (k + totH s.Held + (s.A.Gains.length : Int) + s.B.Gains.length + s.Synth.Head.length + s.Synth.Tail.length < 0) := by omega
  have e4 : ¬ (k + totH s.Held + (s.A.Gains.length : Int) + s.B.Gains.length + s.Synth.Head.length + s.Synth.Tail.length + s.Last.length < 0) := by omega
  simp only [z3, a3, b3, c4, d3, Option.bind_some, decide_eq_true_eq, e0, e1, e2, e3, e4, if_false]
  simp only [Int.add_assoc]
theorem eqReceiver_small {s : SReceiver} (h : RecvSmall s) : laws_eqReceiver s s = some true := by
  obtain ⟨h1, h2, h3, h4, h5, h6, h7⟩ := h
  unfold laws_eqReceiver
  rw [eqHeldS_self (by unfold maxI; omega) (fun x hx => by have := h2 x hx; unfold maxI; omega), laws_eqAnchor_self (by unfold maxI; omega), laws_eqAnchor_self (by unfold maxI; omega), laws_eqSynth_self (by unfold maxI; omega) (by unfold maxI; omega), laws_eqInt64S_self (by unfold maxI; omega)]; simp
theorem hearPacket_same {s : SReceiver} {b : List Int} (w : s.Wf) (ok : RecvOk s) (hb : ∀ x ∈ b, 0 ≤ x ∧ x ≤ 255) (hl : (b.length : Int) ≤ 1048576) : ∃ r, spec_HearPacket s b = some r ∧ impl_HearPacket s b = some r ∧ RecvSmall r.Receiver := by
  obtain ⟨c, p, q⟩ := receiver_same w
  have zr : RecvSmall (SReceiver.mk 0 0 [] (SAnchor.mk false 0 0 []) (SAnchor.mk false 0 0 []) (SSynth.mk 0 [] []) [] 0) := ⟨by simp, by simp, by simp, by simp, by simp, by simp, by simp⟩
  unfold spec_HearPacket impl_HearPacket
  rw [p, q]
  simp only [Option.bind_some]
  by_cases hc : (c != 0) = true
  · rw [if_pos hc, if_pos hc]; exact ⟨_, rfl, rfl, zr⟩
  rw [if_neg hc, if_neg hc]
  obtain rfl : c = 0 := by simpa using hc
  obtain ⟨hn, hh, hin⟩ := receiver_ok w p
  obtain ⟨c1, c2⟩ := copy_same ok
  obtain ⟨e, e1, e2, e3, e4⟩ := hear_same ok hn hh hin hb hl
  simp only [c1, c2, Option.bind_some, e1, e2]
  by_cases he : (e.1 != 0) = true
  · rw [if_pos he]; exact ⟨_, rfl, rfl, zr⟩
  rw [if_neg he]
  refine ⟨_, rfl, rfl, ?_, ?_, ?_, ?_, ?_, ?_, ?_⟩
  · show e.2.1.length ≤ 2000000
    rcases e4 with e4 | ⟨k, x, _, e4⟩ <;> rw [e4]
    · omega
    · simp; omega
  · show ∀ x ∈ e.2.1, x.Data.length ≤ 1048576
    rcases e4 with e4 | ⟨k, x, ex, e4⟩ <;> rw [e4]
    · exact fun x hx => by have := ok.data x hx; omega
    · intro y hy
      rcases List.mem_append.1 hy with hy | hy
      · have := ok.data y (List.mem_of_mem_take hy); omega
      · rcases List.mem_cons.1 hy with rfl | hy
        · rw [ex]; omega
        · have := ok.data y (List.mem_of_mem_drop hy); omega
  · show e.2.2.1.length ≤ 1048576
    rw [e3]; have := ok.a; simp only; omega
  · show e.2.2.2.1.length ≤ 1048576
    rw [e3]; have := ok.b; simp only; omega
  · show e.2.2.2.2.1.length ≤ 1048576
    rw [e3]; have := ok.head; simp only; omega
  · show e.2.2.2.2.2.1.length ≤ 1048576
    rw [e3]; have := ok.tail; simp only; omega
  · show e.2.2.2.2.2.2.length ≤ 1048576
    rw [e3]; have := ok.last; simp only; omega
--REST0
theorem eqResult_self {r : SReceiverResult} (h : RecvSmall r.Receiver) : laws_eqReceiverResult r r = some true := by
  unfold laws_eqReceiverResult
  simp [eqReceiver_small h]
theorem pure (a : SReceiver) (b : List Int) (ha : a.Wf) (hb : (b.length : Int) ≤ maxI ∧ ∀ x ∈ b, WfI .u8 x) : laws_FnExactHearPacket a b = some true := by
  unfold laws_FnExactHearPacket
  by_cases hl : (b.length : Int) > 1048576
  · rw [if_pos (by simpa using hl)]
  rw [if_neg (by simpa using hl)]
  obtain ⟨r1, h1, k1⟩ := laws_szReceiver_spec (n := 1048576) ⟨by omega, by omega⟩ ha
  rw [h1]
  simp only [Option.bind_some, decide_eq_true_eq]
  by_cases c1 : r1 < 0
  · rw [if_pos c1]
  rw [if_neg c1]
  obtain ⟨g1, g2, ok⟩ := k1.resolve_left c1
  obtain ⟨r, p, q, sm⟩ := hearPacket_same ha ok (fun x hx => wfU8.1 (hb.2 x hx)) (by omega)
  have sa : RecvSmall a := ⟨by have := ok.held; omega, fun x hx => by have := ok.data x hx; omega, by have := ok.a; omega, by have := ok.b; omega, by have := ok.head; omega, by have := ok.tail; omega, by have := ok.last; omega⟩
  obtain ⟨a', m1, m2, m3, m4, m5, m6, m7, _⟩ := markReceiver_eq sa (k := 1) (by omega) (by omega)
  have ca := cntR_le sa
  obtain ⟨b', n1, n2, _⟩ := laws_markByteS_eq (l := b) (k := 1 + cntR a) (by omega) (by unfold maxI; omega)
  obtain ⟨r', t1, t2, t3, t4, t5, t6, t7, t8⟩ := markReceiver_eq sm (k := 1) (by omega) (by omega)
  have cr := cntR_le sm
  have eR : SReceiverResult.mk r.Code (SReceiver.mk r.Receiver.Size r.Receiver.Next r.Receiver.Held (SAnchor.mk r.Receiver.A.Known r.Receiver.A.Number r.Receiver.A.Rung r.Receiver.A.Gains) (SAnchor.mk r.Receiver.B.Known r.Receiver.B.Number r.Receiver.B.Rung r.Receiver.B.Gains) (SSynth.mk r.Receiver.Synth.Size r.Receiver.Synth.Head r.Receiver.Synth.Tail) r.Receiver.Last r.Receiver.Lost) = r := rfl
  have d1 : ¬ (1 + cntR a + (b.length : Int) < 0) := by omega
  have d2 : ¬ (1 + cntR r.Receiver < 0) := by omega
  simp only [laws_toReceiver_eq ok, laws_toByteS_eq (l := b) (by omega), Option.bind_some, p, q, eqResult_self sm, if_true, laws_eqReceiver_self ok, eqByteS_eq (l := b) (m := b) hb.1, decide_true, m1, m2, m3, m4, m5, m6, m7, and_self, n1, n2, laws_FnExactHearPacket_u1, laws_FnExactHearPacket_u2, laws_FnExactHearPacket_u3, laws_FnExactHearPacket_u4, laws_FnExactHearPacket_u5, eR, decide_eq_true_eq, d1, if_false, Bool.not_true, Bool.false_eq_true,
    laws_markReceiverResult_oooooo, t1, t2, t3, t4, t5, t6, t7, laws_heldReceiverResult, t8, d2, bne_self_eq_false]
end FnExactHearPacket
end Go.Proofs.Ytpbonfgmiffomaa.Wm
