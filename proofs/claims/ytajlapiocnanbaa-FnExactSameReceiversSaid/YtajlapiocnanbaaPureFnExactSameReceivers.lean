/- What FnExactSameReceivers comes to on plain values: true. -/
import Derived.Test.YtajlapiocnanbaaFnFnExactSameReceivers
set_option linter.unusedSimpArgs false
set_option linter.unusedVariables false
set_option maxRecDepth 100000
namespace Go.Proofs.Ytajlapiocnanbaa.Wm
open Go
namespace FnExactSameReceivers
theorem laws_toInt64S_eq {l : List Int} (hl : (l.length : Int) ≤ 35184372088832) : laws_toInt64S l = some l := by
  unfold laws_toInt64S
  rw [if_pos (okMake_8 (by omega) hl), Int.toNat_natCast]
  obtain ⟨t, h1, rfl⟩ := loop_rule (step := laws_toInt64S_s1 l) (fun i s => s.2 = i ∧ s.1.length = l.length ∧ ∀ j, j < i → s.1[j]? = l[j]?) (fun t => t = l) l.length (by
    rintro i ⟨a, k⟩ hi ⟨hk, ha, hj⟩
    simp only at hk ha hj
    subst hk
    simp only [laws_toInt64S_s1, decide_eq_true_eq]
    rcases Nat.lt_or_ge i l.length with h | h
    · left
      obtain ⟨x, hx, _⟩ := get_lt h
      obtain ⟨y, hy, _⟩ := get_lt (l := a) (i := i) (by omega)
      rw [if_pos (by omega), getI_nat, hx, getI_nat, hy, Int.toNat_natCast, hy, w64 (by omega)]
      refine ⟨h, _, rfl, by simp, by simp [ha], fun j hj' => ?_⟩
      simp only [List.getElem?_set]
      split
      · rename_i e; subst e; rw [if_pos (by omega), hx]
      · exact hj j (by omega)
    · right
      rw [if_neg (by omega)]
      exact ⟨a, rfl, list_ext ha fun j hj' => hj j (by omega)⟩) (s := (List.replicate l.length 0, 0)) ⟨rfl, by simp, fun j hj => by omega⟩
  rw [h1]; rfl
theorem laws_eqInt64S_self {l : List Int} (hl : (l.length : Int) ≤ maxI) : laws_eqInt64S l l = some true := by
  unfold maxI at hl
  unfold laws_eqInt64S
  rw [if_neg (by simp)]
  obtain ⟨t, h1, rfl⟩ := loop_rule (step := laws_eqInt64S_s1 l l) (fun i s => s = (i : Int)) (fun t => t = .inl ()) l.length (by
    rintro i s hi rfl
    simp only [laws_eqInt64S_s1, decide_eq_true_eq]
    rcases Nat.lt_or_ge i l.length with h | h
    · left
      obtain ⟨x, hx, _⟩ := get_lt h
      rw [if_pos (by omega), getI_nat, hx, w64 (by omega)]
      simp only [Option.bind_some, bne_self_eq_false, Bool.false_eq_true, if_false]
      exact ⟨h, _, rfl, by simp⟩
    · right
      rw [if_neg (by omega)]
      exact ⟨_, rfl, rfl⟩) (s := 0) rfl
  rw [h1]; rfl
theorem eq_any {l m : List Int} {step : Int → Option (Int ⊕ (Unit ⊕ Unit))} (h1 : ∀ (i : Nat) (x y : Int), l[i]? = some x → m[i]? = some y → step i = some (if (x == y) = true then .inl (IntKind.i64.wrap ((i : Int) + 1)) else .inr (.inr ())))
    (h2 : step (l.length : Int) = some (.inr (.inl ()))) (hl : (l.length : Int) ≤ maxI) :
    (if ((l.length : Int) != (m.length : Int)) = true then some false else (loopO step 0).bind fun t => (Sum.elim (fun _ => some true) (fun _ => some false)) t) = some (decide (l = m)) := by
  by_cases hlen : l.length = m.length
  · rw [if_neg (by simp [hlen]), same_loop (fun x y => x == y) hlen h1 h2 hl, allSame_eq hlen]
  · rw [if_pos (by simp; omega), decide_eq_false (fun e => hlen (by rw [e]))]
theorem l1Same_eq {l m : List Int} (hl : (l.length : Int) ≤ maxI) : spec_l1Same l m = some (decide (l = m)) := by
  unfold spec_l1Same
  refine eq_any (fun i x y hx hy => ?_) ?_ hl
  · have hi : i < l.length := (List.getElem?_eq_some_iff.1 hx).1
    simp only [spec_l1Same_s1, decide_eq_true_eq]
    rw [if_pos (by omega), getI_nat, hx, getI_nat, hy]
    by_cases e : x = y <;> simp [e]
  · simp only [spec_l1Same_s1, decide_eq_true_eq]; rw [if_neg (by omega)]
theorem equal69_eq {l m : List Int} (hl : (l.length : Int) ≤ maxI) : slices_Equal_69 l m = some (decide (l = m)) := by
  unfold slices_Equal_69
  refine eq_any (fun i x y hx hy => ?_) ?_ hl
  · have hi : i < l.length := (List.getElem?_eq_some_iff.1 hx).1
    simp only [slices_Equal_69_s1, decide_eq_true_eq]
    rw [if_pos (by omega), getI_nat, hx, getI_nat, hy]
    by_cases e : x = y <;> simp [e]
  · simp only [slices_Equal_69_s1, decide_eq_true_eq]; rw [if_neg (by omega)]
theorem equal_eq {l m : List Int} (hl : (l.length : Int) ≤ maxI) : slices_Equal l m = some (decide (l = m)) := by
  unfold slices_Equal
  refine eq_any (fun i x y hx hy => ?_) ?_ hl
  · have hi : i < l.length := (List.getElem?_eq_some_iff.1 hx).1
    simp only [slices_Equal_s1, decide_eq_true_eq]
    rw [if_pos (by omega), getI_nat, hx, getI_nat, hy]
    by_cases e : x = y <;> simp [e]
  · simp only [slices_Equal_s1, decide_eq_true_eq]; rw [if_neg (by omega)]
theorem eqByteS_eq {l m : List Int} (hl : (l.length : Int) ≤ maxI) : laws_eqByteS l m = some (decide (l = m)) := by
  unfold laws_eqByteS
  refine eq_any (fun i x y hx hy => ?_) ?_ hl
  · have hi : i < l.length := (List.getElem?_eq_some_iff.1 hx).1
    simp only [laws_eqByteS_s1, decide_eq_true_eq]
    rw [if_pos (by omega), getI_nat, hx, getI_nat, hy]
    by_cases e : x = y <;> simp [e]
  · simp only [laws_eqByteS_s1, decide_eq_true_eq]; rw [if_neg (by omega)]
theorem sameAnchors_eq {a b : SAnchor} (ha : (a.Gains.length : Int) ≤ maxI) : ∃ r, spec_SameAnchors a b = some r ∧ impl_SameAnchors a b = some r := by
  unfold spec_SameAnchors impl_SameAnchors
  simp only [spec_SameAnchors_u1, impl_SameAnchors_u1, l1Same_eq ha, equal69_eq ha, Option.bind_some]
  by_cases h1 : (a.Known == b.Known) = true <;> by_cases h2 : (a.Number == b.Number) = true <;> by_cases h3 : (a.Rung == b.Rung) = true <;> simp only [h1, h2, h3, if_true, if_false, Option.bind_some] <;> exact ⟨_, rfl, rfl⟩
theorem sameSynths_eq {a b : SSynth} (h1 : (a.Head.length : Int) ≤ maxI) (h2 : (a.Tail.length : Int) ≤ maxI) : ∃ r, spec_SameSynths a b = some r ∧ impl_SameSynths a b = some r := by
  unfold spec_SameSynths impl_SameSynths
  simp only [spec_SameSynths_u1, impl_SameSynths_u1, l1Same_eq h1, equal69_eq h1, l1Same_eq h2, equal69_eq h2, Option.bind_some]
  by_cases h3 : (a.Size == b.Size) = true <;> by_cases h4 : a.Head = b.Head <;> simp only [h3, h4, decide_true, decide_false, if_true, if_false, Option.bind_some, Bool.false_eq_true] <;> exact ⟨_, rfl, rfl⟩
def qHeld (x y : SHeld) : Bool := (x.Number == y.Number) && ((x.Side == y.Side) && decide (x.Data = y.Data))
theorem sameHeld_eq {x y : SHeld} (h : (x.Data.length : Int) ≤ maxI) : impl_sameHeld x y = some (qHeld x y) := by
  unfold impl_sameHeld qHeld
  simp only [impl_sameHeld_u1, equal_eq h, Option.bind_some]
  cases (x.Number == y.Number) <;> cases (x.Side == y.Side) <;> simp
theorem eqHeld_eq {x y : SHeld} (h : (x.Data.length : Int) ≤ maxI) : laws_eqHeld x y = some (qHeld x y) := by
  unfold laws_eqHeld qHeld
  simp only [eqByteS_eq h, Option.bind_some]
  by_cases h1 : x.Number = y.Number <;> by_cases h2 : x.Side = y.Side <;> by_cases h3 : x.Data = y.Data <;> simp [h1, h2, h3]
theorem qHeld_self (x : SHeld) : qHeld x x = true := by simp [qHeld]
theorem equalFunc_eq {l m : List SHeld} (hl : (l.length : Int) ≤ maxI) (hw : ∀ x ∈ l, (x.Data.length : Int) ≤ maxI) (hlen : l.length = m.length) : slices_EqualFunc_impl_sameHeld l m = some (allSame qHeld l m) := by
  unfold slices_EqualFunc_impl_sameHeld
  rw [if_neg (by simp [hlen])]
  refine same_loop qHeld hlen (fun i x y hx hy => ?_) ?_ hl
  · have hi : i < l.length := (List.getElem?_eq_some_iff.1 hx).1
    simp only [slices_EqualFunc_impl_sameHeld_s1, decide_eq_true_eq]
    rw [if_pos (by omega), getI_nat, hx, getI_nat, hy]
    simp only [Option.bind_some, sameHeld_eq (hw x (List.mem_of_getElem? hx))]
    cases qHeld x y <;> rfl
  · simp only [slices_EqualFunc_impl_sameHeld_s1, decide_eq_true_eq]; rw [if_neg (by omega)]
theorem equalFunc_ne {l m : List SHeld} (hlen : l.length ≠ m.length) : slices_EqualFunc_impl_sameHeld l m = some false := by
  unfold slices_EqualFunc_impl_sameHeld
  rw [if_pos (by simp; omega)]
theorem eqHeldS_self {l : List SHeld} (hl : (l.length : Int) ≤ maxI) (hw : ∀ x ∈ l, (x.Data.length : Int) ≤ maxI) : laws_eqHeldS l l = some true := by
  unfold laws_eqHeldS
  rw [if_neg (by simp)]
  have e := same_loop qHeld (l := l) (m := l) (step := laws_eqHeldS_s1 l l) rfl (fun i x y hx hy => by
    have hi : i < l.length := (List.getElem?_eq_some_iff.1 hx).1
    have hxy : x = y := by rw [hx] at hy; exact Option.some.inj hy
    subst hxy
    simp only [laws_eqHeldS_s1, decide_eq_true_eq]
    rw [if_pos (by omega), getI_nat, hx]
    simp only [Option.bind_some, eqHeld_eq (hw x (List.mem_of_getElem? hx))]
    cases qHeld x x <;> rfl) (by simp only [laws_eqHeldS_s1, decide_eq_true_eq]; rw [if_neg (by omega)]) hl
  rw [e, allSame_self fun x _ => qHeld_self x]
theorem laws_toByteS_eq {l : List Int} (hl : (l.length : Int) ≤ 1048576) : laws_toByteS l = some l := by
  unfold laws_toByteS
  rw [if_pos (okMake_of (by omega) (by simp; omega) (by omega)), Int.toNat_natCast, copy_loop (fun a i x y hx hy ha => ?_) (fun a => ?_) (by unfold maxI; omega)]
  · rfl
  · have hi : i < l.length := (List.getElem?_eq_some_iff.1 hx).1
    simp only [laws_toByteS_s1, decide_eq_true_eq]
    rw [if_pos (by omega), getI_nat, hx, getI_nat, hy, Int.toNat_natCast, hy]; rfl
  · simp only [laws_toByteS_s1, decide_eq_true_eq]; rw [if_neg (by omega)]
theorem laws_toHeld_eq {s : SHeld} (hl : (s.Data.length : Int) ≤ 1048576) : laws_toHeld s = some s := by
  unfold laws_toHeld; rw [laws_toByteS_eq hl]; rfl
theorem laws_toHeldS_eq {l : List SHeld} (hl : (l.length : Int) ≤ 1048576) (hw : ∀ x ∈ l, (x.Data.length : Int) ≤ 1048576) : laws_toHeldS l = some l := by
  unfold laws_toHeldS
  rw [if_pos (okMake_of (by omega) (by simp; omega) (by omega)), Int.toNat_natCast, copy_loop (fun a i x y hx hy ha => ?_) (fun a => ?_) (by unfold maxI; omega)]
  · rfl
  · have hi : i < l.length := (List.getElem?_eq_some_iff.1 hx).1
    simp only [laws_toHeldS_s1, decide_eq_true_eq]
    rw [if_pos (by omega), getI_nat, hx]
    simp only [Option.bind_some, laws_toHeld_eq (hw x (List.mem_of_getElem? hx))]
    rw [getI_nat, hy, Int.toNat_natCast, hy]; rfl
  · simp only [laws_toHeldS_s1, decide_eq_true_eq]; rw [if_neg (by omega)]
theorem laws_toAnchor_eq {s : SAnchor} (h1 : (s.Gains.length : Int) ≤ 35184372088832) : laws_toAnchor s = some s := by
  unfold laws_toAnchor
  rw [laws_toInt64S_eq h1]; rfl
theorem laws_toSynth_eq {s : SSynth} (h1 : (s.Head.length : Int) ≤ 35184372088832) (h2 : (s.Tail.length : Int) ≤ 35184372088832) : laws_toSynth s = some s := by
  unfold laws_toSynth
  rw [laws_toInt64S_eq h1, laws_toInt64S_eq h2]; rfl
theorem laws_szInt64S_spec {l : List Int} {n : Int} (hn : n ≤ 1048576) (hl : (l.length : Int) ≤ maxI) (h : 0 ≤ n) : (laws_szInt64S l n < 0 ∨ laws_szInt64S l n = n - l.length) := by
  unfold maxI at hl
  simp only [laws_szInt64S, decide_eq_true_eq]
  rw [w64 (by omega)]
  split
  · left; omega
  · right; rfl
theorem laws_szAnchor_spec {s : SAnchor} {n : Int} (hn : n ≤ 1048576) (h1 : (s.Gains.length : Int) ≤ maxI) (h : 0 ≤ n) : laws_szAnchor s n < 0 ∨ laws_szAnchor s n = n - s.Gains.length := by
  simp only [laws_szAnchor, decide_eq_true_eq]
  rcases laws_szInt64S_spec hn h1 h with e | e
  · left; rw [if_pos e]; omega
  · rw [e]; split
    · left; omega
    · right; rfl
theorem laws_szSynth_spec {s : SSynth} {n : Int} (hn : n ≤ 1048576) (h1 : (s.Head.length : Int) ≤ maxI) (h2 : (s.Tail.length : Int) ≤ maxI) (h : 0 ≤ n) : laws_szSynth s n < 0 ∨ laws_szSynth s n = n - s.Head.length - s.Tail.length := by
  simp only [laws_szSynth, decide_eq_true_eq]
  split
  · left; omega
  · rename_i q
    rcases laws_szInt64S_spec hn h1 h with e | e
    · omega
    · rw [e] at q ⊢
      rcases laws_szInt64S_spec (n := n - s.Head.length) (by omega) h2 (by omega) with e2 | e2
      · left; rw [if_pos e2]; omega
      · rw [e2]; split
        · left; omega
        · right; rfl
theorem laws_szHeld_spec {s : SHeld} {n : Int} (hn : n ≤ 1048576) (hl : (s.Data.length : Int) ≤ maxI) (h : 0 ≤ n) : (laws_szHeld s n < 0 ∨ laws_szHeld s n = n - s.Data.length) := by
  unfold maxI at hl
  simp only [laws_szHeld, laws_szByteS, decide_eq_true_eq]
  rw [w64 (by omega)]
  by_cases q : n - s.Data.length < 0
  · left; simp [q]
  · right; simp [q]
theorem laws_szHeldS_spec {l : List SHeld} {n : Int} (hn : 0 ≤ n ∧ n ≤ 1048576) (hl : (l.length : Int) ≤ maxI) (hw : ∀ x ∈ l, (x.Data.length : Int) ≤ maxI) :
    ∃ r, laws_szHeldS l n = some r ∧ (r < 0 ∨ (r ≤ n ∧ (l.length : Int) ≤ n ∧ ∀ x ∈ l, (x.Data.length : Int) ≤ n)) := by
  unfold maxI at hl
  unfold laws_szHeldS
  rw [w64 (by omega)]
  by_cases h0 : n - l.length < 0
  · rw [if_pos (decide_eq_true h0)]; exact ⟨_, rfl, .inl (by omega)⟩
  · rw [if_neg (by simpa using h0)]
    obtain ⟨t, q1, q2⟩ := loop_rule (step := laws_szHeldS_s1 l) (fun i s => s.2 = (i : Int) ∧ 0 ≤ s.1 ∧ s.1 ≤ n ∧ ∀ j x, j < i → l[j]? = some x → (x.Data.length : Int) ≤ n)
        (fun t => (∃ r, t = .inl r ∧ r ≤ n ∧ ∀ x ∈ l, (x.Data.length : Int) ≤ n) ∨ t = .inr ()) l.length (by
      rintro i ⟨a, k⟩ hi ⟨hk, h1, h2, hj⟩
      simp only at hk h1 h2 hj
      subst hk
      simp only [laws_szHeldS_s1, decide_eq_true_eq]
      rcases Nat.lt_or_ge i l.length with h | h
      · obtain ⟨x, hx, hm⟩ := get_lt h
        rw [if_pos (by omega), getI_nat, hx, w64 (n := (i : Int) + 1) (by omega)]
        simp only [Option.bind_some]
        rcases laws_szHeld_spec (s := x) (n := a) (by omega) (hw x hm) h1 with e | e
        · right; rw [if_pos e]; exact ⟨_, rfl, .inr rfl⟩
        · rw [e]
          by_cases hc : a - x.Data.length < 0
          · right; rw [if_pos hc]; exact ⟨_, rfl, .inr rfl⟩
          · left
            rw [if_neg hc]
            refine ⟨h, _, rfl, by simp, by simp only []; omega, by simp only []; omega, fun j y hj' hy => ?_⟩
            rcases Nat.lt_or_ge j i with hji | hji
            · exact hj j y hji hy
            · obtain rfl : j = i := by omega
              rw [hx] at hy; obtain rfl := Option.some.inj hy; omega
      · right
        rw [if_neg (by omega)]
        refine ⟨_, rfl, .inl ⟨a, rfl, h2, fun x hx => ?_⟩⟩
        obtain ⟨j, hj'⟩ := List.getElem?_of_mem hx
        exact hj j x (by have := (List.getElem?_eq_some_iff.1 hj').1; omega) hj') (s := (n - l.length, 0)) ⟨rfl, by simp only []; omega, by simp only []; omega, fun j x hj => by omega⟩
    rw [q1]
    rcases q2 with ⟨r, rfl, h1, h2⟩ | rfl
    · exact ⟨r, rfl, .inr ⟨h1, by omega, h2⟩⟩
    · exact ⟨-1, rfl, .inl (by omega)⟩
structure RecvOk (s : SReceiver) : Prop where
  held : (s.Held.length : Int) ≤ 1048576
  data : ∀ x ∈ s.Held, (x.Data.length : Int) ≤ 1048576
  a : (s.A.Gains.length : Int) ≤ 1048576
  b : (s.B.Gains.length : Int) ≤ 1048576
  head : (s.Synth.Head.length : Int) ≤ 1048576
  tail : (s.Synth.Tail.length : Int) ≤ 1048576
  last : (s.Last.length : Int) ≤ 1048576
theorem laws_szReceiver_spec {s : SReceiver} {n : Int} (hn : 0 ≤ n ∧ n ≤ 1048576) (w : s.Wf) : ∃ r, laws_szReceiver s n = some r ∧ (r < 0 ∨ (0 ≤ r ∧ r ≤ n ∧ RecvOk s)) := by
  obtain ⟨_, _, ⟨w0, w1⟩, ⟨_, _, _, w3, _⟩, ⟨_, _, _, w4, _⟩, ⟨_, ⟨w5, _⟩, ⟨w6, _⟩⟩, ⟨w7, _⟩, _⟩ := w
  obtain ⟨r, h1, h2⟩ := laws_szHeldS_spec hn w0 (fun x hx => (w1 x hx).2.2.1)
  unfold laws_szReceiver
  rw [h1]
  simp only [Option.bind_some, decide_eq_true_eq]
  by_cases k1 : r < 0
  · rw [if_pos k1]; exact ⟨_, rfl, .inl (by omega)⟩
  · rw [if_neg k1]
    obtain ⟨g1, g2, g3⟩ := h2.resolve_left k1
    rcases laws_szAnchor_spec (s := s.A) (n := r) (by omega) w3 (by omega) with e | e
    · rw [if_pos e]; exact ⟨_, rfl, .inl (by omega)⟩
    · rw [e]
      by_cases k2 : r - s.A.Gains.length < 0
      · rw [if_pos k2]; exact ⟨_, rfl, .inl (by omega)⟩
      · rw [if_neg k2]
        rcases laws_szAnchor_spec (s := s.B) (n := r - s.A.Gains.length) (by omega) w4 (by omega) with e | e
        · rw [if_pos e]; exact ⟨_, rfl, .inl (by omega)⟩
        · rw [e]
          by_cases k3 : r - s.A.Gains.length - s.B.Gains.length < 0
          · rw [if_pos k3]; exact ⟨_, rfl, .inl (by omega)⟩
          · rw [if_neg k3]
            rcases laws_szSynth_spec (s := s.Synth) (n := r - s.A.Gains.length - s.B.Gains.length) (by omega) w5 w6 (by omega) with e | e
            · rw [if_pos e]; exact ⟨_, rfl, .inl (by omega)⟩
            · rw [e]
              by_cases k4 : r - s.A.Gains.length - s.B.Gains.length - s.Synth.Head.length - s.Synth.Tail.length < 0
              · rw [if_pos k4]; exact ⟨_, rfl, .inl (by omega)⟩
              · rw [if_neg k4]
                rcases laws_szInt64S_spec (l := s.Last) (n := r - s.A.Gains.length - s.B.Gains.length - s.Synth.Head.length - s.Synth.Tail.length) (by omega) w7 (by omega) with e | e
                · rw [if_pos e]; exact ⟨_, rfl, .inl (by omega)⟩
                · rw [e]
                  by_cases k5 : r - s.A.Gains.length - s.B.Gains.length - s.Synth.Head.length - s.Synth.Tail.length - s.Last.length < 0
                  · rw [if_pos k5]; exact ⟨_, rfl, .inl (by omega)⟩
                  · rw [if_neg k5]
                    exact ⟨_, rfl, .inr ⟨by omega, by omega, ⟨by omega, fun x hx => by have := g3 x hx; omega, by omega, by omega, by omega, by omega, by omega⟩⟩⟩
theorem laws_toReceiver_eq {s : SReceiver} (h : RecvOk s) : laws_toReceiver s = some s := by
  unfold laws_toReceiver
  rw [laws_toHeldS_eq h.held h.data, laws_toAnchor_eq (by have := h.a; omega), laws_toAnchor_eq (by have := h.b; omega), laws_toSynth_eq (by have := h.head; omega) (by have := h.tail; omega), laws_toInt64S_eq (by have := h.last; omega)]; rfl
theorem small {n : Nat} (h : (n : Int) ≤ 1048576) : (n : Int) ≤ maxI := by unfold maxI; omega
theorem laws_eqAnchor_self {s : SAnchor} (h1 : (s.Gains.length : Int) ≤ maxI) : laws_eqAnchor s s = some true := by
  unfold laws_eqAnchor
  rw [laws_eqInt64S_self h1]; simp
theorem laws_eqSynth_self {s : SSynth} (h1 : (s.Head.length : Int) ≤ maxI) (h2 : (s.Tail.length : Int) ≤ maxI) : laws_eqSynth s s = some true := by
  unfold laws_eqSynth
  rw [laws_eqInt64S_self h1, laws_eqInt64S_self h2]; simp
theorem laws_eqReceiver_self {s : SReceiver} (h : RecvOk s) : laws_eqReceiver s s = some true := by
  unfold laws_eqReceiver
  rw [eqHeldS_self (small h.held) (fun x hx => small (h.data x hx)), laws_eqAnchor_self (small h.a), laws_eqAnchor_self (small h.b), laws_eqSynth_self (small h.head) (small h.tail), laws_eqInt64S_self (small h.last)]; simp
theorem step_held {a b : SReceiver} (ha : a.Wf) (hb : b.Wf) {i : Nat} {x y : SHeld} (hx : a.Held[i]? = some x) (hy : b.Held[i]? = some y) :
    spec_SameReceivers_s4 a.Size a.Next a.Held a.A.Known a.A.Number a.A.Rung a.A.Gains a.B.Known a.B.Number a.B.Rung a.B.Gains a.Synth.Size a.Synth.Head a.Synth.Tail a.Last a.Lost b.Size b.Next b.Held b.A.Known b.A.Number b.A.Rung b.A.Gains b.B.Known b.B.Number b.B.Rung b.B.Gains b.Synth.Size b.Synth.Head b.Synth.Tail b.Last b.Lost (i : Int) = some (if qHeld x y = true then .inl (IntKind.i64.wrap ((i : Int) + 1)) else .inr (.inr ())) := by
  have hi : i < a.Held.length := (List.getElem?_eq_some_iff.1 hx).1
  have wx := (ha.2.2.1.2 x (List.mem_of_getElem? hx)).2.2.2
  have wy := (hb.2.2.1.2 y (List.mem_of_getElem? hy)).2.2.2
  have hd : ((x.Data.map fun n => UInt8.ofNat n.toNat) == (y.Data.map fun n => UInt8.ofNat n.toNat)) = decide (x.Data = y.Data) := by
    rw [Bool.eq_iff_iff, beq_iff_eq, decide_eq_true_eq]
    exact ⟨bytes_inj (fun z hz => wfU8.1 (wx z hz)) (fun z hz => wfU8.1 (wy z hz)), fun e => by rw [e]⟩
  simp only [spec_SameReceivers_s4, decide_eq_true_eq]
  rw [if_pos (by omega)]
  simp only [spec_SameReceivers_u3, getI_nat, hx, hy, Option.bind_some, bytesI_eq, hd, qHeld]
  by_cases h1 : x.Number = y.Number <;> by_cases h2 : x.Side = y.Side <;> by_cases h3 : x.Data = y.Data <;> simp [h1, h2, h3]
theorem sameReceivers_same {a b : SReceiver} (ha : a.Wf) (hb : b.Wf) (ka : RecvOk a) : ∃ r, spec_SameReceivers a b = some r ∧ impl_SameReceivers a b = some r := by
  obtain ⟨rA, pA, qA⟩ := sameAnchors_eq (a := a.A) (b := b.A) (small ka.a)
  obtain ⟨rB, pB, qB⟩ := sameAnchors_eq (a := a.B) (b := b.B) (small ka.b)
  obtain ⟨rS, pS, qS⟩ := sameSynths_eq (a := a.Synth) (b := b.Synth) (small ka.head) (small ka.tail)
  have lp := fun (hlen : a.Held.length = b.Held.length) => same_loop qHeld (l := a.Held) (m := b.Held) hlen (fun i x y hx hy => step_held ha hb hx hy) (by simp only [spec_SameReceivers_s4, decide_eq_true_eq]; rw [if_neg (by omega)]) (small ka.held)
  unfold spec_SameReceivers impl_SameReceivers
  have eA : (SAnchor.mk a.A.Known a.A.Number a.A.Rung a.A.Gains) = a.A := rfl
  have eA' : (SAnchor.mk b.A.Known b.A.Number b.A.Rung b.A.Gains) = b.A := rfl
  have eB : (SAnchor.mk a.B.Known a.B.Number a.B.Rung a.B.Gains) = a.B := rfl
  have eB' : (SAnchor.mk b.B.Known b.B.Number b.B.Rung b.B.Gains) = b.B := rfl
  have eS : (SSynth.mk a.Synth.Size a.Synth.Head a.Synth.Tail) = a.Synth := rfl
  have eS' : (SSynth.mk b.Synth.Size b.Synth.Head b.Synth.Tail) = b.Synth := rfl
  simp only [spec_SameReceivers_u1, impl_SameReceivers_u1, eA, eA', eB, eB', eS, eS', pA, pB, pS, qA, qB, qS, l1Same_eq (small ka.last), equal69_eq (small ka.last), Option.bind_some]
  by_cases hlen : a.Held.length = b.Held.length
  · rw [equalFunc_eq (small ka.held) (fun x hx => small (ka.data x hx)) hlen, lp hlen]
    simp only [Option.bind_some, hlen]
    generalize allSame qHeld a.Held b.Held = H
    by_cases h1 : a.Size = b.Size <;> by_cases h2 : a.Next = b.Next <;> by_cases h3 : a.Last = b.Last <;> by_cases h4 : a.Lost = b.Lost <;> cases rA <;> cases rB <;> cases rS <;> cases H <;> simp [h1, h2, h3, h4]
  · rw [equalFunc_ne hlen]
    have hne : ((a.Held.length : Int) != (b.Held.length : Int)) = true := by simp; omega
    simp only [Option.bind_some, hne]
    by_cases h1 : a.Size = b.Size <;> by_cases h2 : a.Next = b.Next <;> by_cases h3 : a.Last = b.Last <;> by_cases h4 : a.Lost = b.Lost <;> cases rA <;> cases rB <;> cases rS <;> simp [h1, h2, h3, h4]
--REST0
theorem pure (a b : SReceiver) (ha : a.Wf) (hb : b.Wf) : laws_FnExactSameReceivers a b = some true := by
  unfold laws_FnExactSameReceivers
  obtain ⟨r1, h1, k1⟩ := laws_szReceiver_spec (n := 1048576) ⟨by omega, by omega⟩ ha
  rw [h1]
  simp only [Option.bind_some, decide_eq_true_eq]
  by_cases c1 : r1 < 0
  · rw [if_pos c1]
  · rw [if_neg c1]
    obtain ⟨g1, g2, ka⟩ := k1.resolve_left c1
    obtain ⟨r2, h2, k2⟩ := laws_szReceiver_spec (n := r1) ⟨by omega, by omega⟩ hb
    rw [h2]
    simp only [Option.bind_some]
    by_cases c2 : r2 < 0
    · rw [if_pos c2]
    · rw [if_neg c2]
      obtain ⟨_, _, kb⟩ := k2.resolve_left c2
      obtain ⟨r, p, q⟩ := sameReceivers_same ha hb ka
      simp only [laws_toReceiver_eq ka, laws_toReceiver_eq kb, Option.bind_some, p, q, laws_eqReceiver_self ka, laws_eqReceiver_self kb]
      simp
end FnExactSameReceivers
end Go.Proofs.Ytajlapiocnanbaa.Wm
