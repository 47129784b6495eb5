/- What FnExactSameSessions comes to on plain values: true. -/
import Derived.Test.YtjgdnpockaijeaaFnBFnExactSameSessions
set_option linter.unusedSimpArgs false
set_option linter.unusedVariables false
set_option maxRecDepth 100000
namespace Go.Proofs.Ytjgdnpockaijeaa.Wm
open Go
namespace FnExactSameSessions
theorem laws_toInt64S_eq {l : List Int} (hl : (l.length : Int) ≤ 35184372088832) : laws_toInt64S l = some l := by
  unfold laws_toInt64S
  rw [if_pos (okMake_8 (by omega) hl), Int.toNat_natCast]
  obtain ⟨t, h1, rfl⟩ := loop_rule (step := laws_toInt64S_s1 l) (fun i s => s.2 = i ∧ s.1.length = l.length ∧ ∀ j, j < i → s.1[j]? = l[j]?) (fun t => t = l) l.length (by
    rintro i ⟨a, k⟩ hi ⟨hk, ha, hj⟩
    simp only at hk ha hj
    subst hk
    simp only [laws_toInt64S_s1, decide_eq_true_eq]
    rcases Nat.lt_or_ge i l.length with h | h
    · left
      obtain ⟨x, hx, _⟩ := get_lt h
      obtain ⟨y, hy, _⟩ := get_lt (l := a) (i := i) (by omega)
      rw [if_pos (by omega), getI_nat, hx, getI_nat, hy, Int.toNat_natCast, hy, w64 (by omega)]
      refine ⟨h, _, rfl, by simp, by simp [ha], fun j hj' => ?_⟩
      simp only [List.getElem?_set]
      split
      · rename_i e; subst e; rw [if_pos (by omega), hx]
      · exact hj j (by omega)
    · right
      rw [if_neg (by omega)]
      exact ⟨a, rfl, list_ext ha fun j hj' => hj j (by omega)⟩) (s := (List.replicate l.length 0, 0)) ⟨rfl, by simp, fun j hj => by omega⟩
  rw [h1]; rfl
theorem laws_eqInt64S_self {l : List Int} (hl : (l.length : Int) ≤ maxI) : laws_eqInt64S l l = some true := by
  unfold maxI at hl
  unfold laws_eqInt64S
  rw [if_neg (by simp)]
  obtain ⟨t, h1, rfl⟩ := loop_rule (step := laws_eqInt64S_s1 l l) (fun i s => s = (i : Int)) (fun t => t = .inl ()) l.length (by
    rintro i s hi rfl
    simp only [laws_eqInt64S_s1, decide_eq_true_eq]
    rcases Nat.lt_or_ge i l.length with h | h
    · left
      obtain ⟨x, hx, _⟩ := get_lt h
      rw [if_pos (by omega), getI_nat, hx, w64 (by omega)]
      simp only [Option.bind_some, bne_self_eq_false, Bool.false_eq_true, if_false]
      exact ⟨h, _, rfl, by simp⟩
    · right
      rw [if_neg (by omega)]
      exact ⟨_, rfl, rfl⟩) (s := 0) rfl
  rw [h1]; rfl
theorem eq_any {l m : List Int} {step : Int → Option (Int ⊕ (Unit ⊕ Unit))} (h1 : ∀ (i : Nat) (x y : Int), l[i]? = some x → m[i]? = some y → step i = some (if (x == y) = true then .inl (IntKind.i64.wrap ((i : Int) + 1)) else .inr (.inr ())))
    (h2 : step (l.length : Int) = some (.inr (.inl ()))) (hl : (l.length : Int) ≤ maxI) :
    (if ((l.length : Int) != (m.length : Int)) = true then some false else (loopO step 0).bind fun t => (Sum.elim (fun _ => some true) (fun _ => some false)) t) = some (decide (l = m)) := by
  by_cases hlen : l.length = m.length
  · rw [if_neg (by simp [hlen]), same_loop (fun x y => x == y) hlen h1 h2 hl, allSame_eq hlen]
  · rw [if_pos (by simp; omega), decide_eq_false (fun e => hlen (by rw [e]))]
theorem l1Same_eq {l m : List Int} (hl : (l.length : Int) ≤ maxI) : spec_l1Same l m = some (decide (l = m)) := by
  unfold spec_l1Same
  refine eq_any (fun i x y hx hy => ?_) ?_ hl
  · have hi : i < l.length := (List.getElem?_eq_some_iff.1 hx).1
    simp only [spec_l1Same_s1, decide_eq_true_eq]
    rw [if_pos (by omega), getI_nat, hx, getI_nat, hy]
    by_cases e : x = y <;> simp [e]
  · simp only [spec_l1Same_s1, decide_eq_true_eq]; rw [if_neg (by omega)]
theorem equal69_eq {l m : List Int} (hl : (l.length : Int) ≤ maxI) : slices_Equal_int64 l m = some (decide (l = m)) := by
  unfold slices_Equal_int64
  refine eq_any (fun i x y hx hy => ?_) ?_ hl
  · have hi : i < l.length := (List.getElem?_eq_some_iff.1 hx).1
    simp only [slices_Equal_int64_s1, decide_eq_true_eq]
    rw [if_pos (by omega), getI_nat, hx, getI_nat, hy]
    by_cases e : x = y <;> simp [e]
  · simp only [slices_Equal_int64_s1, decide_eq_true_eq]; rw [if_neg (by omega)]
theorem equal_eq {l m : List Int} (hl : (l.length : Int) ≤ maxI) : slices_Equal_byte l m = some (decide (l = m)) := by
  unfold slices_Equal_byte
  refine eq_any (fun i x y hx hy => ?_) ?_ hl
  · have hi : i < l.length := (List.getElem?_eq_some_iff.1 hx).1
    simp only [slices_Equal_byte_s1, decide_eq_true_eq]
    rw [if_pos (by omega), getI_nat, hx, getI_nat, hy]
    by_cases e : x = y <;> simp [e]
  · simp only [slices_Equal_byte_s1, decide_eq_true_eq]; rw [if_neg (by omega)]
theorem eqByteS_eq {l m : List Int} (hl : (l.length : Int) ≤ maxI) : laws_eqByteS l m = some (decide (l = m)) := by
  unfold laws_eqByteS
  refine eq_any (fun i x y hx hy => ?_) ?_ hl
  · have hi : i < l.length := (List.getElem?_eq_some_iff.1 hx).1
    simp only [laws_eqByteS_s1, decide_eq_true_eq]
    rw [if_pos (by omega), getI_nat, hx, getI_nat, hy]
    by_cases e : x = y <;> simp [e]
  · simp only [laws_eqByteS_s1, decide_eq_true_eq]; rw [if_neg (by omega)]
theorem sameAnchors_eq {a b : SAnchor} (ha : (a.Gains.length : Int) ≤ maxI) : ∃ r, spec_SameAnchors a b = some r ∧ impl_SameAnchors a b = some r := by
  unfold spec_SameAnchors impl_SameAnchors
  simp only [spec_SameAnchors_u1, impl_SameAnchors_u1, l1Same_eq ha, equal69_eq ha, Option.bind_some]
  by_cases h1 : (a.Known == b.Known) = true <;> by_cases h2 : (a.Number == b.Number) = true <;> by_cases h3 : (a.Rung == b.Rung) = true <;> simp only [h1, h2, h3, if_true, if_false, Option.bind_some] <;> exact ⟨_, rfl, rfl⟩
theorem sameSynths_eq {a b : SSynth} (h1 : (a.Head.length : Int) ≤ maxI) (h2 : (a.Tail.length : Int) ≤ maxI) : ∃ r, spec_SameSynths a b = some r ∧ impl_SameSynths a b = some r := by
  unfold spec_SameSynths impl_SameSynths
  simp only [spec_SameSynths_u1, impl_SameSynths_u1, l1Same_eq h1, equal69_eq h1, l1Same_eq h2, equal69_eq h2, Option.bind_some]
  by_cases h3 : (a.Size == b.Size) = true <;> by_cases h4 : a.Head = b.Head <;> simp only [h3, h4, decide_true, decide_false, if_true, if_false, Option.bind_some, Bool.false_eq_true] <;> exact ⟨_, rfl, rfl⟩
def qHeld (x y : SHeld) : Bool := (x.Number == y.Number) && ((x.Side == y.Side) && decide (x.Data = y.Data))
theorem sameHeld_eq {x y : SHeld} (h : (x.Data.length : Int) ≤ maxI) : impl_sameHeld x y = some (qHeld x y) := by
  unfold impl_sameHeld qHeld
  simp only [impl_sameHeld_u1, equal_eq h, Option.bind_some]
  cases (x.Number == y.Number) <;> cases (x.Side == y.Side) <;> simp
theorem eqHeld_eq {x y : SHeld} (h : (x.Data.length : Int) ≤ maxI) : laws_eqHeld x y = some (qHeld x y) := by
  unfold laws_eqHeld qHeld
  simp only [eqByteS_eq h, Option.bind_some]
  by_cases h1 : x.Number = y.Number <;> by_cases h2 : x.Side = y.Side <;> by_cases h3 : x.Data = y.Data <;> simp [h1, h2, h3]
theorem qHeld_self (x : SHeld) : qHeld x x = true := by simp [qHeld]
theorem equalFunc_eq {l m : List SHeld} (hl : (l.length : Int) ≤ maxI) (hw : ∀ x ∈ l, (x.Data.length : Int) ≤ maxI) (hlen : l.length = m.length) : slices_EqualFunc_Held_impl_sameHeld l m = some (allSame qHeld l m) := by
  unfold slices_EqualFunc_Held_impl_sameHeld
  rw [if_neg (by simp [hlen])]
  refine same_loop qHeld hlen (fun i x y hx hy => ?_) ?_ hl
  · have hi : i < l.length := (List.getElem?_eq_some_iff.1 hx).1
    simp only [slices_EqualFunc_Held_impl_sameHeld_s1, decide_eq_true_eq]
    rw [if_pos (by omega), getI_nat, hx, getI_nat, hy]
    simp only [Option.bind_some, sameHeld_eq (hw x (List.mem_of_getElem? hx))]
    cases qHeld x y <;> rfl
  · simp only [slices_EqualFunc_Held_impl_sameHeld_s1, decide_eq_true_eq]; rw [if_neg (by omega)]
theorem equalFunc_ne {l m : List SHeld} (hlen : l.length ≠ m.length) : slices_EqualFunc_Held_impl_sameHeld l m = some false := by
  unfold slices_EqualFunc_Held_impl_sameHeld
  rw [if_pos (by simp; omega)]
theorem eqHeldS_self {l : List SHeld} (hl : (l.length : Int) ≤ maxI) (hw : ∀ x ∈ l, (x.Data.length : Int) ≤ maxI) : laws_eqHeldS l l = some true := by
  unfold laws_eqHeldS
  rw [if_neg (by simp)]
  have e := same_loop qHeld (l := l) (m := l) (step := laws_eqHeldS_s1 l l) rfl (fun i x y hx hy => by
    have hi : i < l.length := (List.getElem?_eq_some_iff.1 hx).1
    have hxy : x = y := by rw [hx] at hy; exact Option.some.inj hy
    subst hxy
    simp only [laws_eqHeldS_s1, decide_eq_true_eq]
    rw [if_pos (by omega), getI_nat, hx]
    simp only [Option.bind_some, eqHeld_eq (hw x (List.mem_of_getElem? hx))]
    cases qHeld x x <;> rfl) (by simp only [laws_eqHeldS_s1, decide_eq_true_eq]; rw [if_neg (by omega)]) hl
  rw [e, allSame_self fun x _ => qHeld_self x]
theorem laws_toByteS_eq {l : List Int} (hl : (l.length : Int) ≤ 1048576) : laws_toByteS l = some l := by
  unfold laws_toByteS
  rw [if_pos (okMake_of (by omega) (by simp; omega) (by omega)), Int.toNat_natCast, copy_loop (fun a i x y hx hy ha => ?_) (fun a => ?_) (by unfold maxI; omega)]
  · rfl
  · have hi : i < l.length := (List.getElem?_eq_some_iff.1 hx).1
    simp only [laws_toByteS_s1, decide_eq_true_eq]
    rw [if_pos (by omega), getI_nat, hx, getI_nat, hy, Int.toNat_natCast, hy]; rfl
  · simp only [laws_toByteS_s1, decide_eq_true_eq]; rw [if_neg (by omega)]
theorem laws_toHeld_eq {s : SHeld} (hl : (s.Data.length : Int) ≤ 1048576) : laws_toHeld s = some s := by
  unfold laws_toHeld; rw [laws_toByteS_eq hl]; rfl
theorem laws_toHeldS_eq {l : List SHeld} (hl : (l.length : Int) ≤ 1048576) (hw : ∀ x ∈ l, (x.Data.length : Int) ≤ 1048576) : laws_toHeldS l = some l := by
  unfold laws_toHeldS
  rw [if_pos (okMake_of (by omega) (by simp; omega) (by omega)), Int.toNat_natCast, copy_loop (fun a i x y hx hy ha => ?_) (fun a => ?_) (by unfold maxI; omega)]
  · rfl
  · have hi : i < l.length := (List.getElem?_eq_some_iff.1 hx).1
    simp only [laws_toHeldS_s1, decide_eq_true_eq]
    rw [if_pos (by omega), getI_nat, hx]
    simp only [Option.bind_some, laws_toHeld_eq (hw x (List.mem_of_getElem? hx))]
    rw [getI_nat, hy, Int.toNat_natCast, hy]; rfl
  · simp only [laws_toHeldS_s1, decide_eq_true_eq]; rw [if_neg (by omega)]
theorem laws_toAnchor_eq {s : SAnchor} (h1 : (s.Gains.length : Int) ≤ 35184372088832) : laws_toAnchor s = some s := by
  unfold laws_toAnchor
  rw [laws_toInt64S_eq h1]; rfl
theorem laws_toSynth_eq {s : SSynth} (h1 : (s.Head.length : Int) ≤ 35184372088832) (h2 : (s.Tail.length : Int) ≤ 35184372088832) : laws_toSynth s = some s := by
  unfold laws_toSynth
  rw [laws_toInt64S_eq h1, laws_toInt64S_eq h2]; rfl
theorem laws_szInt64S_spec {l : List Int} {n : Int} (hn : n ≤ 1048576) (hl : (l.length : Int) ≤ maxI) (h : 0 ≤ n) : (laws_szInt64S l n < 0 ∨ laws_szInt64S l n = n - l.length) := by
  unfold maxI at hl
  simp only [laws_szInt64S, decide_eq_true_eq]
  rw [w64 (by omega)]
  split
  · left; omega
  · right; rfl
theorem laws_szAnchor_spec {s : SAnchor} {n : Int} (hn : n ≤ 1048576) (h1 : (s.Gains.length : Int) ≤ maxI) (h : 0 ≤ n) : laws_szAnchor s n < 0 ∨ laws_szAnchor s n = n - s.Gains.length := by
  simp only [laws_szAnchor, decide_eq_true_eq]
  rcases laws_szInt64S_spec hn h1 h with e | e
  · left; rw [if_pos e]; omega
  · rw [e]; split
    · left; omega
    · right; rfl
theorem laws_szSynth_spec {s : SSynth} {n : Int} (hn : n ≤ 1048576) (h1 : (s.Head.length : Int) ≤ maxI) (h2 : (s.Tail.length : Int) ≤ maxI) (h : 0 ≤ n) : laws_szSynth s n < 0 ∨ laws_szSynth s n = n - s.Head.length - s.Tail.length := by
  simp only [laws_szSynth, decide_eq_true_eq]
  split
  · left; omega
  · rename_i q
    rcases laws_szInt64S_spec hn h1 h with e | e
    · omega
    · rw [e] at q ⊢
      rcases laws_szInt64S_spec (n := n - s.Head.length) (by omega) h2 (by omega) with e2 | e2
      · left; rw [if_pos e2]; omega
      · rw [e2]; split
        · left; omega
        · right; rfl
theorem laws_szHeld_spec {s : SHeld} {n : Int} (hn : n ≤ 1048576) (hl : (s.Data.length : Int) ≤ maxI) (h : 0 ≤ n) : (laws_szHeld s n < 0 ∨ laws_szHeld s n = n - s.Data.length) := by
  unfold maxI at hl
  simp only [laws_szHeld, laws_szByteS, decide_eq_true_eq]
  rw [w64 (by omega)]
  by_cases q : n - s.Data.length < 0
  · left; simp [q]
  · right; simp [q]
theorem laws_szHeldS_spec {l : List SHeld} {n : Int} (hn : 0 ≤ n ∧ n ≤ 1048576) (hl : (l.length : Int) ≤ maxI) (hw : ∀ x ∈ l, (x.Data.length : Int) ≤ maxI) :
    ∃ r, laws_szHeldS l n = some r ∧ (r < 0 ∨ (r ≤ n ∧ (l.length : Int) ≤ n ∧ ∀ x ∈ l, (x.Data.length : Int) ≤ n)) := by
  unfold maxI at hl
  unfold laws_szHeldS
  rw [w64 (by omega)]
  by_cases h0 : n - l.length < 0
  · rw [if_pos (decide_eq_true h0)]; exact ⟨_, rfl, .inl (by omega)⟩
  · rw [if_neg (by simpa using h0)]
    obtain ⟨t, q1, q2⟩ := loop_rule (step := laws_szHeldS_s1 l) (fun i s => s.2 = (i : Int) ∧ 0 ≤ s.1 ∧ s.1 ≤ n ∧ ∀ j x, j < i → l[j]? = some x → (x.Data.length : Int) ≤ n)
        (fun t => (∃ r, t = .inl r ∧ r ≤ n ∧ ∀ x ∈ l, (x.Data.length : Int) ≤ n) ∨ t = .inr ()) l.length (by
      rintro i ⟨a, k⟩ hi ⟨hk, h1, h2, hj⟩
      simp only at hk h1 h2 hj
      subst hk
      simp only [laws_szHeldS_s1, decide_eq_true_eq]
      rcases Nat.lt_or_ge i l.length with h | h
      · obtain ⟨x, hx, hm⟩ := get_lt h
        rw [if_pos (by omega), getI_nat, hx, w64 (n := (i : Int) + 1) (by omega)]
        simp only [Option.bind_some]
        rcases laws_szHeld_spec (s := x) (n := a) (by omega) (hw x hm) h1 with e | e
        · right; rw [if_pos e]; exact ⟨_, rfl, .inr rfl⟩
        · rw [e]
          by_cases hc : a - x.Data.length < 0
          · right; rw [if_pos hc]; exact ⟨_, rfl, .inr rfl⟩
          · left
            rw [if_neg hc]
            refine ⟨h, _, rfl, by simp, by simp only []; omega, by simp only []; omega, fun j y hj' hy => ?_⟩
            rcases Nat.lt_or_ge j i with hji | hji
            · exact hj j y hji hy
            · obtain rfl : j = i := by omega
              rw [hx] at hy; obtain rfl := Option.some.inj hy; omega
      · right
        rw [if_neg (by omega)]
        refine ⟨_, rfl, .inl ⟨a, rfl, h2, fun x hx => ?_⟩⟩
        obtain ⟨j, hj'⟩ := List.getElem?_of_mem hx
        exact hj j x (by have := (List.getElem?_eq_some_iff.1 hj').1; omega) hj') (s := (n - l.length, 0)) ⟨rfl, by simp only []; omega, by simp only []; omega, fun j x hj => by omega⟩
    rw [q1]
    rcases q2 with ⟨r, rfl, h1, h2⟩ | rfl
    · exact ⟨r, rfl, .inr ⟨h1, by omega, h2⟩⟩
    · exact ⟨-1, rfl, .inl (by omega)⟩
structure RecvOk (s : SReceiver) : Prop where
  held : (s.Held.length : Int) ≤ 1048576
  data : ∀ x ∈ s.Held, (x.Data.length : Int) ≤ 1048576
  a : (s.A.Gains.length : Int) ≤ 1048576
  b : (s.B.Gains.length : Int) ≤ 1048576
  head : (s.Synth.Head.length : Int) ≤ 1048576
  tail : (s.Synth.Tail.length : Int) ≤ 1048576
  last : (s.Last.length : Int) ≤ 1048576
theorem laws_szReceiver_spec {s : SReceiver} {n : Int} (hn : 0 ≤ n ∧ n ≤ 1048576) (w : s.Wf) : ∃ r, laws_szReceiver s n = some r ∧ (r < 0 ∨ (0 ≤ r ∧ r ≤ n ∧ RecvOk s)) := by
  obtain ⟨_, _, ⟨w0, w1⟩, ⟨_, _, _, w3, _⟩, ⟨_, _, _, w4, _⟩, ⟨_, ⟨w5, _⟩, ⟨w6, _⟩⟩, ⟨w7, _⟩, _⟩ := w
  obtain ⟨r, h1, h2⟩ := laws_szHeldS_spec hn w0 (fun x hx => (w1 x hx).2.2.1)
  unfold laws_szReceiver
  rw [h1]
  simp only [Option.bind_some, decide_eq_true_eq]
  by_cases k1 : r < 0
  · rw [if_pos k1]; exact ⟨_, rfl, .inl (by omega)⟩
  · rw [if_neg k1]
    obtain ⟨g1, g2, g3⟩ := h2.resolve_left k1
    rcases laws_szAnchor_spec (s := s.A) (n := r) (by omega) w3 (by omega) with e | e
    · rw [if_pos e]; exact ⟨_, rfl, .inl (by omega)⟩
    · rw [e]
      by_cases k2 : r - s.A.Gains.length < 0
      · rw [if_pos k2]; exact ⟨_, rfl, .inl (by omega)⟩
      · rw [if_neg k2]
        rcases laws_szAnchor_spec (s := s.B) (n := r - s.A.Gains.length) (by omega) w4 (by omega) with e | e
        · rw [if_pos e]; exact ⟨_, rfl, .inl (by omega)⟩
        · rw [e]
          by_cases k3 : r - s.A.Gains.length - s.B.Gains.length < 0
          · rw [if_pos k3]; exact ⟨_, rfl, .inl (by omega)⟩
          · rw [if_neg k3]
            rcases laws_szSynth_spec (s := s.Synth) (n := r - s.A.Gains.length - s.B.Gains.length) (by omega) w5 w6 (by omega) with e | e
            · rw [if_pos e]; exact ⟨_, rfl, .inl (by omega)⟩
            · rw [e]
              by_cases k4 : r - s.A.Gains.length - s.B.Gains.length - s.Synth.Head.length - s.Synth.Tail.length < 0
              · rw [if_pos k4]; exact ⟨_, rfl, .inl (by omega)⟩
              · rw [if_neg k4]
                rcases laws_szInt64S_spec (l := s.Last) (n := r - s.A.Gains.length - s.B.Gains.length - s.Synth.Head.length - s.Synth.Tail.length) (by omega) w7 (by omega) with e | e
                · rw [if_pos e]; exact ⟨_, rfl, .inl (by omega)⟩
                · rw [e]
                  by_cases k5 : r - s.A.Gains.length - s.B.Gains.length - s.Synth.Head.length - s.Synth.Tail.length - s.Last.length < 0
                  · rw [if_pos k5]; exact ⟨_, rfl, .inl (by omega)⟩
                  · rw [if_neg k5]
                    exact ⟨_, rfl, .inr ⟨by omega, by omega, ⟨by omega, fun x hx => by have := g3 x hx; omega, by omega, by omega, by omega, by omega, by omega⟩⟩⟩
theorem laws_toReceiver_eq {s : SReceiver} (h : RecvOk s) : laws_toReceiver s = some s := by
  unfold laws_toReceiver
  rw [laws_toHeldS_eq h.held h.data, laws_toAnchor_eq (by have := h.a; omega), laws_toAnchor_eq (by have := h.b; omega), laws_toSynth_eq (by have := h.head; omega) (by have := h.tail; omega), laws_toInt64S_eq (by have := h.last; omega)]; rfl
theorem small {n : Nat} (h : (n : Int) ≤ 1048576) : (n : Int) ≤ maxI := by unfold maxI; omega
theorem laws_eqAnchor_self {s : SAnchor} (h1 : (s.Gains.length : Int) ≤ maxI) : laws_eqAnchor s s = some true := by
  unfold laws_eqAnchor
  rw [laws_eqInt64S_self h1]; simp
theorem laws_eqSynth_self {s : SSynth} (h1 : (s.Head.length : Int) ≤ maxI) (h2 : (s.Tail.length : Int) ≤ maxI) : laws_eqSynth s s = some true := by
  unfold laws_eqSynth
  rw [laws_eqInt64S_self h1, laws_eqInt64S_self h2]; simp
theorem laws_eqReceiver_self {s : SReceiver} (h : RecvOk s) : laws_eqReceiver s s = some true := by
  unfold laws_eqReceiver
  rw [eqHeldS_self (small h.held) (fun x hx => small (h.data x hx)), laws_eqAnchor_self (small h.a), laws_eqAnchor_self (small h.b), laws_eqSynth_self (small h.head) (small h.tail), laws_eqInt64S_self (small h.last)]; simp
theorem laws_toLap_eq {s : SLap} (h1 : (s.Half.length : Int) ≤ 35184372088832) (h2 : (s.Rest.length : Int) ≤ 35184372088832) : laws_toLap s = some s := by
  unfold laws_toLap
  rw [laws_toInt64S_eq h1, laws_toInt64S_eq h2]; rfl
theorem laws_szLap_spec {s : SLap} {n : Int} (hn : n ≤ 1048576) (h1 : (s.Half.length : Int) ≤ maxI) (h2 : (s.Rest.length : Int) ≤ maxI) (h : 0 ≤ n) : laws_szLap s n < 0 ∨ laws_szLap s n = n - s.Half.length - s.Rest.length := by
  simp only [laws_szLap, decide_eq_true_eq]
  split
  · left; omega
  · rename_i q
    rcases laws_szInt64S_spec hn h1 h with e | e
    · omega
    · rw [e] at q ⊢
      rcases laws_szInt64S_spec (n := n - s.Half.length) (by omega) h2 (by omega) with e2 | e2
      · left; rw [if_pos e2]; omega
      · rw [e2]; split
        · left; omega
        · right; rfl
theorem laws_szSender_spec {s : SSender} {n : Int} (hn : n ≤ 1048576) (w : s.Wf) (h : 0 ≤ n) : laws_szSender s n < 0 ∨ laws_szSender s n = n - s.Lap.Half.length - s.Lap.Rest.length - s.A.Gains.length - s.B.Gains.length := by
  obtain ⟨_, _, _, _, ⟨_, w1, w2⟩, ⟨_, _, _, w3⟩, ⟨_, _, _, w4⟩, _⟩ := w
  simp only [laws_szSender, decide_eq_true_eq]
  split
  · left; omega
  · rename_i q
    rcases laws_szLap_spec hn w1.1 w2.1 h with e | e
    · omega
    · rw [e] at q ⊢
      rcases laws_szAnchor_spec (s := s.A) (n := n - s.Lap.Half.length - s.Lap.Rest.length) (by omega) w3.1 (by omega) with e2 | e2
      · left; rw [if_pos e2]; omega
      · rw [e2]
        split
        · left; omega
        · rcases laws_szAnchor_spec (s := s.B) (n := n - s.Lap.Half.length - s.Lap.Rest.length - s.A.Gains.length) (by omega) w4.1 (by omega) with e3 | e3
          · left; rw [if_pos e3]; omega
          · rw [e3]; split
            · left; omega
            · right; rfl
theorem laws_toSender_eq {s : SSender} (w : s.Wf) (h : ¬ laws_szSender s 1048576 < 0) : laws_toSender s = some s := by
  have h0 := laws_szSender_spec (n := 1048576) (by omega) w (by omega)
  unfold laws_toSender
  rw [laws_toLap_eq (by omega) (by omega), laws_toAnchor_eq (by omega), laws_toAnchor_eq (by omega)]; rfl
theorem laws_eqLap_self {s : SLap} (h1 : (s.Half.length : Int) ≤ maxI) (h2 : (s.Rest.length : Int) ≤ maxI) : laws_eqLap s s = some true := by
  unfold laws_eqLap
  rw [laws_eqInt64S_self h1, laws_eqInt64S_self h2]; simp
theorem laws_eqSender_self {s : SSender} (w : s.Wf) : laws_eqSender s s = some true := by
  obtain ⟨_, _, _, _, ⟨_, w1, w2⟩, ⟨_, _, _, w3⟩, ⟨_, _, _, w4⟩, _⟩ := w
  unfold laws_eqSender
  rw [laws_eqLap_self w1.1 w2.1, laws_eqAnchor_self w3.1, laws_eqAnchor_self w4.1]; simp
theorem step_held {a b : SReceiver} (ha : a.Wf) (hb : b.Wf) {i : Nat} {x y : SHeld} (hx : a.Held[i]? = some x) (hy : b.Held[i]? = some y) :
    spec_SameReceivers_s4 a.Size a.Next a.Held a.A.Known a.A.Number a.A.Rung a.A.Gains a.B.Known a.B.Number a.B.Rung a.B.Gains a.Synth.Size a.Synth.Head a.Synth.Tail a.Last a.Lost b.Size b.Next b.Held b.A.Known b.A.Number b.A.Rung b.A.Gains b.B.Known b.B.Number b.B.Rung b.B.Gains b.Synth.Size b.Synth.Head b.Synth.Tail b.Last b.Lost (i : Int) = some (if qHeld x y = true then .inl (IntKind.i64.wrap ((i : Int) + 1)) else .inr (.inr ())) := by
  have hi : i < a.Held.length := (List.getElem?_eq_some_iff.1 hx).1
  have wx := (ha.2.2.1.2 x (List.mem_of_getElem? hx)).2.2.2
  have wy := (hb.2.2.1.2 y (List.mem_of_getElem? hy)).2.2.2
  have hd : ((x.Data.map fun n => UInt8.ofNat n.toNat) == (y.Data.map fun n => UInt8.ofNat n.toNat)) = decide (x.Data = y.Data) := by
    rw [Bool.eq_iff_iff, beq_iff_eq, decide_eq_true_eq]
    exact ⟨bytes_inj (fun z hz => wfU8.1 (wx z hz)) (fun z hz => wfU8.1 (wy z hz)), fun e => by rw [e]⟩
  simp only [spec_SameReceivers_s4, decide_eq_true_eq]
  rw [if_pos (by omega)]
  simp only [spec_SameReceivers_u3, getI_nat, hx, hy, Option.bind_some, bytesI_eq, hd, qHeld]
  by_cases h1 : x.Number = y.Number <;> by_cases h2 : x.Side = y.Side <;> by_cases h3 : x.Data = y.Data <;> simp [h1, h2, h3]
theorem sameReceivers_same {a b : SReceiver} (ha : a.Wf) (hb : b.Wf) (ka : RecvOk a) : ∃ r, spec_SameReceivers a b = some r ∧ impl_SameReceivers a b = some r := by
  obtain ⟨rA, pA, qA⟩ := sameAnchors_eq (a := a.A) (b := b.A) (small ka.a)
  obtain ⟨rB, pB, qB⟩ := sameAnchors_eq (a := a.B) (b := b.B) (small ka.b)
  obtain ⟨rS, pS, qS⟩ := sameSynths_eq (a := a.Synth) (b := b.Synth) (small ka.head) (small ka.tail)
  have lp := fun (hlen : a.Held.length = b.Held.length) => same_loop qHeld (l := a.Held) (m := b.Held) hlen (fun i x y hx hy => step_held ha hb hx hy) (by simp only [spec_SameReceivers_s4, decide_eq_true_eq]; rw [if_neg (by omega)]) (small ka.held)
  unfold spec_SameReceivers impl_SameReceivers
  have eA : (SAnchor.mk a.A.Known a.A.Number a.A.Rung a.A.Gains) = a.A := rfl
  have eA' : (SAnchor.mk b.A.Known b.A.Number b.A.Rung b.A.Gains) = b.A := rfl
  have eB : (SAnchor.mk a.B.Known a.B.Number a.B.Rung a.B.Gains) = a.B := rfl
  have eB' : (SAnchor.mk b.B.Known b.B.Number b.B.Rung b.B.Gains) = b.B := rfl
  have eS : (SSynth.mk a.Synth.Size a.Synth.Head a.Synth.Tail) = a.Synth := rfl
  have eS' : (SSynth.mk b.Synth.Size b.Synth.Head b.Synth.Tail) = b.Synth := rfl
  simp only [spec_SameReceivers_u1, impl_SameReceivers_u1, eA, eA', eB, eB', eS, eS', pA, pB, pS, qA, qB, qS, l1Same_eq (small ka.last), equal69_eq (small ka.last), Option.bind_some]
  by_cases hlen : a.Held.length = b.Held.length
  · rw [equalFunc_eq (small ka.held) (fun x hx => small (ka.data x hx)) hlen, lp hlen]
    simp only [Option.bind_some, hlen]
    generalize allSame qHeld a.Held b.Held = H
    by_cases h1 : a.Size = b.Size <;> by_cases h2 : a.Next = b.Next <;> by_cases h3 : a.Last = b.Last <;> by_cases h4 : a.Lost = b.Lost <;> cases rA <;> cases rB <;> cases rS <;> cases H <;> simp [h1, h2, h3, h4]
  · rw [equalFunc_ne hlen]
    have hne : ((a.Held.length : Int) != (b.Held.length : Int)) = true := by simp; omega
    simp only [Option.bind_some, hne]
    by_cases h1 : a.Size = b.Size <;> by_cases h2 : a.Next = b.Next <;> by_cases h3 : a.Last = b.Last <;> by_cases h4 : a.Lost = b.Lost <;> cases rA <;> cases rB <;> cases rS <;> simp [h1, h2, h3, h4]
theorem laws_toScheduler_eq {s : SScheduler} (hl : (s.Window.length : Int) ≤ 35184372088832) : laws_toScheduler s = some s := by
  unfold laws_toScheduler
  rw [laws_toInt64S_eq hl]; rfl
theorem laws_eqScheduler_self {s : SScheduler} (hl : (s.Window.length : Int) ≤ maxI) : laws_eqScheduler s s = some true := by
  unfold laws_eqScheduler
  rw [if_neg (by simp), laws_eqInt64S_self hl]; rfl
theorem sameLaps_eq {a b : SLap} (h1 : (a.Half.length : Int) ≤ maxI) (h2 : (a.Rest.length : Int) ≤ maxI) : ∃ r, spec_SameLaps a b = some r ∧ impl_SameLaps a b = some r := by
  unfold spec_SameLaps impl_SameLaps
  simp only [spec_SameLaps_u1, impl_SameLaps_u1, l1Same_eq h1, equal69_eq h1, l1Same_eq h2, equal69_eq h2, Option.bind_some]
  by_cases h3 : (a.Size == b.Size) = true <;> by_cases h4 : a.Half = b.Half <;> simp only [h3, h4, decide_true, decide_false, if_true, if_false, Option.bind_some, Bool.false_eq_true] <;> exact ⟨_, rfl, rfl⟩
structure SendOk (s : SSender) : Prop where
  half : (s.Lap.Half.length : Int) ≤ 1048576
  rest : (s.Lap.Rest.length : Int) ≤ 1048576
  a : (s.A.Gains.length : Int) ≤ 1048576
  b : (s.B.Gains.length : Int) ≤ 1048576
theorem sameSenders_same {a b : SSender} (ka : SendOk a) : ∃ r, spec_SameSenders a b = some r ∧ impl_SameSenders a b = some r := by
  obtain ⟨rL, pL, qL⟩ := sameLaps_eq (a := a.Lap) (b := b.Lap) (small ka.half) (small ka.rest)
  obtain ⟨rA, pA, qA⟩ := sameAnchors_eq (a := a.A) (b := b.A) (small ka.a)
  obtain ⟨rB, pB, qB⟩ := sameAnchors_eq (a := a.B) (b := b.B) (small ka.b)
  have eL : (SLap.mk a.Lap.Size a.Lap.Half a.Lap.Rest) = a.Lap := rfl
  have eL' : (SLap.mk b.Lap.Size b.Lap.Half b.Lap.Rest) = b.Lap := rfl
  have eA : (SAnchor.mk a.A.Known a.A.Number a.A.Rung a.A.Gains) = a.A := rfl
  have eA' : (SAnchor.mk b.A.Known b.A.Number b.A.Rung b.A.Gains) = b.A := rfl
  have eB : (SAnchor.mk a.B.Known a.B.Number a.B.Rung a.B.Gains) = a.B := rfl
  have eB' : (SAnchor.mk b.B.Known b.B.Number b.B.Rung b.B.Gains) = b.B := rfl
  unfold spec_SameSenders impl_SameSenders
  simp only [spec_SameSenders_u1, impl_SameSenders_u1, eL, eL', eA, eA', eB, eB', pL, pA, pB, qL, qA, qB, Option.bind_some]
  generalize (a.Size == b.Size) = c1
  generalize (a.Budget == b.Budget) = c2
  generalize (a.Refresh == b.Refresh) = c3
  generalize (a.Number == b.Number) = c4
  generalize (a.SinceA == b.SinceA) = c5
  generalize (a.SinceB == b.SinceB) = c6
  cases c1 <;> cases c2 <;> cases c3 <;> cases c4 <;> cases rL <;> cases rA <;> cases rB <;> cases c5 <;> exact ⟨_, rfl, rfl⟩
theorem sender_toSelf {s : SSender} (k : SendOk s) : laws_toSender s = some s := by
  unfold laws_toSender
  rw [laws_toLap_eq (by have := k.half; omega) (by have := k.rest; omega), laws_toAnchor_eq (by have := k.a; omega), laws_toAnchor_eq (by have := k.b; omega)]; rfl
theorem sendOk_of {s : SSender} {n : Int} (hn : n ≤ 1048576) (w : s.Wf) (h : 0 ≤ n) (hs : ¬ laws_szSender s n < 0) : SendOk s ∧ 0 ≤ laws_szSender s n ∧ laws_szSender s n ≤ n := by
  have e := (laws_szSender_spec hn w h).resolve_left hs
  exact ⟨⟨by omega, by omega, by omega, by omega⟩, by omega, by omega⟩
def qFlight (x y : SFlight) : Bool := (x.Due == y.Due) && decide (x.Data = y.Data)
theorem sameFlight_eq {x y : SFlight} (h : (x.Data.length : Int) ≤ maxI) : impl_sameFlight x y = some (qFlight x y) := by
  unfold impl_sameFlight qFlight
  simp only [impl_sameFlight_u1, equal_eq h, Option.bind_some]
  cases (x.Due == y.Due) <;> simp
theorem eqFlight_eq {x y : SFlight} (h : (x.Data.length : Int) ≤ maxI) : laws_eqFlight x y = some (qFlight x y) := by
  unfold laws_eqFlight qFlight
  simp only [eqByteS_eq h, Option.bind_some]
  by_cases h1 : x.Due = y.Due <;> by_cases h3 : x.Data = y.Data <;> simp [h1, h3]
theorem qFlight_self (x : SFlight) : qFlight x x = true := by simp [qFlight]
theorem equalFlights_eq {l m : List SFlight} (hl : (l.length : Int) ≤ maxI) (hw : ∀ x ∈ l, (x.Data.length : Int) ≤ maxI) (hlen : l.length = m.length) : slices_EqualFunc_Flight_impl_sameFlight l m = some (allSame qFlight l m) := by
  unfold slices_EqualFunc_Flight_impl_sameFlight
  rw [if_neg (by simp [hlen])]
  refine same_loop qFlight hlen (fun i x y hx hy => ?_) ?_ hl
  · have hi : i < l.length := (List.getElem?_eq_some_iff.1 hx).1
    simp only [slices_EqualFunc_Flight_impl_sameFlight_s1, decide_eq_true_eq]
    rw [if_pos (by omega), getI_nat, hx, getI_nat, hy]
    simp only [Option.bind_some, sameFlight_eq (hw x (List.mem_of_getElem? hx))]
    cases qFlight x y <;> rfl
  · simp only [slices_EqualFunc_Flight_impl_sameFlight_s1, decide_eq_true_eq]; rw [if_neg (by omega)]
theorem equalFlights_ne {l m : List SFlight} (hlen : l.length ≠ m.length) : slices_EqualFunc_Flight_impl_sameFlight l m = some false := by
  unfold slices_EqualFunc_Flight_impl_sameFlight
  rw [if_pos (by simp; omega)]
theorem eqFlightS_self {l : List SFlight} (hl : (l.length : Int) ≤ maxI) (hw : ∀ x ∈ l, (x.Data.length : Int) ≤ maxI) : laws_eqFlightS l l = some true := by
  unfold laws_eqFlightS
  rw [if_neg (by simp)]
  have e := same_loop qFlight (l := l) (m := l) (step := laws_eqFlightS_s1 l l) rfl (fun i x y hx hy => by
    have hi : i < l.length := (List.getElem?_eq_some_iff.1 hx).1
    have hxy : x = y := by rw [hx] at hy; exact Option.some.inj hy
    subst hxy
    simp only [laws_eqFlightS_s1, decide_eq_true_eq]
    rw [if_pos (by omega), getI_nat, hx]
    simp only [Option.bind_some, eqFlight_eq (hw x (List.mem_of_getElem? hx))]
    cases qFlight x x <;> rfl) (by simp only [laws_eqFlightS_s1, decide_eq_true_eq]; rw [if_neg (by omega)]) hl
  rw [e, allSame_self fun x _ => qFlight_self x]
theorem laws_toFlight_eq {s : SFlight} (hl : (s.Data.length : Int) ≤ 1048576) : laws_toFlight s = some s := by
  unfold laws_toFlight; rw [laws_toByteS_eq hl]; rfl
theorem laws_toFlightS_eq {l : List SFlight} (hl : (l.length : Int) ≤ 1048576) (hw : ∀ x ∈ l, (x.Data.length : Int) ≤ 1048576) : laws_toFlightS l = some l := by
  unfold laws_toFlightS
  rw [if_pos (okMake_of (by omega) (by simp; omega) (by omega)), Int.toNat_natCast, copy_loop (fun a i x y hx hy ha => ?_) (fun a => ?_) (by unfold maxI; omega)]
  · rfl
  · have hi : i < l.length := (List.getElem?_eq_some_iff.1 hx).1
    simp only [laws_toFlightS_s1, decide_eq_true_eq]
    rw [if_pos (by omega), getI_nat, hx]
    simp only [Option.bind_some, laws_toFlight_eq (hw x (List.mem_of_getElem? hx))]
    rw [getI_nat, hy, Int.toNat_natCast, hy]; rfl
  · simp only [laws_toFlightS_s1, decide_eq_true_eq]; rw [if_neg (by omega)]
theorem laws_szFlight_spec {s : SFlight} {n : Int} (hn : n ≤ 1048576) (hl : (s.Data.length : Int) ≤ maxI) (h : 0 ≤ n) : (laws_szFlight s n < 0 ∨ laws_szFlight s n = n - s.Data.length) := by
  unfold maxI at hl
  simp only [laws_szFlight, laws_szByteS, decide_eq_true_eq]
  rw [w64 (by omega)]
  by_cases q : n - s.Data.length < 0
  · left; simp [q]
  · right; simp [q]
theorem laws_szFlightS_spec {l : List SFlight} {n : Int} (hn : 0 ≤ n ∧ n ≤ 1048576) (hl : (l.length : Int) ≤ maxI) (hw : ∀ x ∈ l, (x.Data.length : Int) ≤ maxI) :
    ∃ r, laws_szFlightS l n = some r ∧ (r < 0 ∨ (r ≤ n ∧ (l.length : Int) ≤ n ∧ ∀ x ∈ l, (x.Data.length : Int) ≤ n)) := by
  unfold maxI at hl
  unfold laws_szFlightS
  rw [w64 (by omega)]
  by_cases h0 : n - l.length < 0
  · rw [if_pos (decide_eq_true h0)]; exact ⟨_, rfl, .inl (by omega)⟩
  · rw [if_neg (by simpa using h0)]
    obtain ⟨t, q1, q2⟩ := loop_rule (step := laws_szFlightS_s1 l) (fun i s => s.2 = (i : Int) ∧ 0 ≤ s.1 ∧ s.1 ≤ n ∧ ∀ j x, j < i → l[j]? = some x → (x.Data.length : Int) ≤ n)
        (fun t => (∃ r, t = .inl r ∧ r ≤ n ∧ ∀ x ∈ l, (x.Data.length : Int) ≤ n) ∨ t = .inr ()) l.length (by
      rintro i ⟨a, k⟩ hi ⟨hk, h1, h2, hj⟩
      simp only at hk h1 h2 hj
      subst hk
      simp only [laws_szFlightS_s1, decide_eq_true_eq]
      rcases Nat.lt_or_ge i l.length with h | h
      · obtain ⟨x, hx, hm⟩ := get_lt h
        rw [if_pos (by omega), getI_nat, hx, w64 (n := (i : Int) + 1) (by omega)]
        simp only [Option.bind_some]
        rcases laws_szFlight_spec (s := x) (n := a) (by omega) (hw x hm) h1 with e | e
        · right; rw [if_pos e]; exact ⟨_, rfl, .inr rfl⟩
        · rw [e]
          by_cases hc : a - x.Data.length < 0
          · right; rw [if_pos hc]; exact ⟨_, rfl, .inr rfl⟩
          · left
            rw [if_neg hc]
            refine ⟨h, _, rfl, by simp, by simp only []; omega, by simp only []; omega, fun j y hj' hy => ?_⟩
            rcases Nat.lt_or_ge j i with hji | hji
            · exact hj j y hji hy
            · obtain rfl : j = i := by omega
              rw [hx] at hy; obtain rfl := Option.some.inj hy; omega
      · right
        rw [if_neg (by omega)]
        refine ⟨_, rfl, .inl ⟨a, rfl, h2, fun x hx => ?_⟩⟩
        obtain ⟨j, hj'⟩ := List.getElem?_of_mem hx
        exact hj j x (by have := (List.getElem?_eq_some_iff.1 hj').1; omega) hj') (s := (n - l.length, 0)) ⟨rfl, by simp only []; omega, by simp only []; omega, fun j x hj => by omega⟩
    rw [q1]
    rcases q2 with ⟨r, rfl, h1, h2⟩ | rfl
    · exact ⟨r, rfl, .inr ⟨h1, by omega, h2⟩⟩
    · exact ⟨-1, rfl, .inl (by omega)⟩
def qNote (x y : SNote) : Bool := (x.Due == y.Due) && ((x.Report.Number == y.Report.Number) && (x.Report.Got == y.Report.Got))
theorem eqNote_eq {x y : SNote} : laws_eqNote x y = qNote x y := by
  unfold laws_eqNote laws_eqReport qNote
  by_cases h1 : x.Due = y.Due <;> by_cases h2 : x.Report.Number = y.Report.Number <;> by_cases h3 : x.Report.Got = y.Report.Got <;> simp [h1, h2, h3]
theorem qNote_self (x : SNote) : qNote x x = true := by simp [qNote]
theorem equalNotes_eq {l m : List SNote} (hl : (l.length : Int) ≤ maxI) (hlen : l.length = m.length) : slices_Equal_Note l m = some (allSame qNote l m) := by
  unfold slices_Equal_Note
  rw [if_neg (by simp [hlen])]
  refine same_loop qNote hlen (fun i x y hx hy => ?_) ?_ hl
  · have hi : i < l.length := (List.getElem?_eq_some_iff.1 hx).1
    simp only [slices_Equal_Note_s1, decide_eq_true_eq]
    rw [if_pos (by omega), getI_nat, hx, getI_nat, hy]
    simp only [Option.bind_some, qNote]
    split <;> rename_i hh <;> simp only [hh, if_true, if_false] <;> rfl
  · simp only [slices_Equal_Note_s1, decide_eq_true_eq]; rw [if_neg (by omega)]
theorem equalNotes_ne {l m : List SNote} (hlen : l.length ≠ m.length) : slices_Equal_Note l m = some false := by
  unfold slices_Equal_Note
  rw [if_pos (by simp; omega)]
theorem eqNoteS_self {l : List SNote} (hl : (l.length : Int) ≤ maxI) : laws_eqNoteS l l = some true := by
  unfold laws_eqNoteS
  rw [if_neg (by simp)]
  have e := same_loop qNote (l := l) (m := l) (step := laws_eqNoteS_s1 l l) rfl (fun i x y hx hy => by
    have hi : i < l.length := (List.getElem?_eq_some_iff.1 hx).1
    have hxy : x = y := by rw [hx] at hy; exact Option.some.inj hy
    subst hxy
    simp only [laws_eqNoteS_s1, decide_eq_true_eq]
    rw [if_pos (by omega), getI_nat, hx]
    simp only [Option.bind_some, eqNote_eq]
    split <;> rename_i hh <;> simp only [hh, if_true, if_false] <;> rfl) (by simp only [laws_eqNoteS_s1, decide_eq_true_eq]; rw [if_neg (by omega)]) hl
  rw [e, allSame_self fun x _ => qNote_self x]
theorem laws_toNoteS_eq {l : List SNote} (hl : (l.length : Int) ≤ 1048576) : laws_toNoteS l = some l := by
  unfold laws_toNoteS
  rw [if_pos (okMake_of (by omega) (by simp; omega) (by omega)), Int.toNat_natCast, copy_loop (fun a i x y hx hy ha => ?_) (fun a => ?_) (by unfold maxI; omega)]
  · rfl
  · have hi : i < l.length := (List.getElem?_eq_some_iff.1 hx).1
    simp only [laws_toNoteS_s1, decide_eq_true_eq]
    rw [if_pos (by omega), getI_nat, hx, getI_nat, hy, Int.toNat_natCast, hy]; rfl
  · simp only [laws_toNoteS_s1, decide_eq_true_eq]; rw [if_neg (by omega)]
structure SessOk (s : SSession) : Prop where
  send : SendOk s.Sender
  recv : RecvOk s.Receiver
  win : (s.Scheduler.Window.length : Int) ≤ 1048576
  fl : (s.Flights.length : Int) ≤ 1048576
  data : ∀ x ∈ s.Flights, (x.Data.length : Int) ≤ 1048576
  notes : (s.Notes.length : Int) ≤ 1048576
theorem laws_szSession_spec {s : SSession} {n : Int} (hn : 0 ≤ n ∧ n ≤ 1048576) (w : s.Wf) : ∃ r, laws_szSession s n = some r ∧ (r < 0 ∨ (0 ≤ r ∧ r ≤ n ∧ SessOk s)) := by
  obtain ⟨wS, wR, ⟨_, wW, _⟩, _, _, ⟨wF, wF2⟩, ⟨wN, _⟩⟩ := w
  unfold laws_szSession
  simp only [decide_eq_true_eq]
  by_cases k1 : laws_szSender s.Sender n < 0
  · rw [if_pos k1]; exact ⟨_, rfl, .inl (by omega)⟩
  · rw [if_neg k1]
    obtain ⟨o1, a1, a2⟩ := sendOk_of hn.2 wS hn.1 k1
    obtain ⟨r, h1, h2⟩ := laws_szReceiver_spec (n := laws_szSender s.Sender n) ⟨a1, by omega⟩ wR
    rw [h1]
    simp only [Option.bind_some]
    by_cases k2 : r < 0
    · rw [if_pos k2]; exact ⟨_, rfl, .inl (by omega)⟩
    · rw [if_neg k2]
      obtain ⟨b1, b2, o2⟩ := h2.resolve_left k2
      have eW : laws_szScheduler s.Scheduler r < 0 ∨ laws_szScheduler s.Scheduler r = r - s.Scheduler.Window.length := by
        simp only [laws_szScheduler, decide_eq_true_eq]
        rcases laws_szInt64S_spec (l := s.Scheduler.Window) (n := r) (by omega) wW b1 with e | e
        · left; rw [if_pos e]; omega
        · rw [e]; split
          · left; omega
          · right; rfl
      by_cases k3 : laws_szScheduler s.Scheduler r < 0
      · rw [if_pos k3]; exact ⟨_, rfl, .inl (by omega)⟩
      · rw [if_neg k3]
        have e3 := eW.resolve_left k3
        obtain ⟨q, h3, h4⟩ := laws_szFlightS_spec (l := s.Flights) (n := laws_szScheduler s.Scheduler r) ⟨by omega, by omega⟩ wF (fun x hx => (wF2 x hx).2.1)
        rw [h3]
        simp only [Option.bind_some]
        by_cases k4 : q < 0
        · rw [if_pos k4]; exact ⟨_, rfl, .inl (by omega)⟩
        · rw [if_neg k4]
          obtain ⟨c1, c2, c3⟩ := h4.resolve_left k4
          have eN : laws_szNoteS s.Notes q < 0 ∨ laws_szNoteS s.Notes q = q - s.Notes.length := by
            unfold maxI at wN
            simp only [laws_szNoteS, decide_eq_true_eq]
            rw [w64 (by omega)]
            split
            · left; omega
            · right; rfl
          by_cases k5 : laws_szNoteS s.Notes q < 0
          · rw [if_pos k5]; exact ⟨_, rfl, .inl (by omega)⟩
          · rw [if_neg k5]
            have e5 := eN.resolve_left k5
            exact ⟨_, rfl, .inr ⟨by omega, by omega, ⟨o1, o2, by omega, by omega, fun x hx => by have := c3 x hx; omega, by omega⟩⟩⟩
theorem laws_toSession_eq {s : SSession} (k : SessOk s) : laws_toSession s = some s := by
  unfold laws_toSession
  rw [sender_toSelf k.send, laws_toReceiver_eq k.recv, laws_toScheduler_eq (by have := k.win; omega), laws_toFlightS_eq k.fl k.data, laws_toNoteS_eq k.notes]; rfl
theorem sender_eqSelf {s : SSender} (k : SendOk s) : laws_eqSender s s = some true := by
  unfold laws_eqSender
  rw [laws_eqLap_self (small k.half) (small k.rest), laws_eqAnchor_self (small k.a), laws_eqAnchor_self (small k.b)]; simp
theorem laws_eqSession_self {s : SSession} (k : SessOk s) : laws_eqSession s s = some true := by
  unfold laws_eqSession
  rw [sender_eqSelf k.send, laws_eqReceiver_self k.recv, laws_eqScheduler_self (small k.win), eqFlightS_self (small k.fl) (fun x hx => small (k.data x hx)), eqNoteS_self (small k.notes)]; simp
theorem same_loop2 {α γ : Type} {l m : List α} (q : α → α → Bool) {step : Int → Option (Int ⊕ (Unit ⊕ Unit))} (hlen : l.length = m.length)
    (h1 : ∀ (i : Nat) (x y : α), l[i]? = some x → m[i]? = some y → step i = some (if q x y = true then .inl (IntKind.i64.wrap ((i : Int) + 1)) else .inr (.inr ())))
    (h2 : step (l.length : Int) = some (.inr (.inl ()))) (hl : (l.length : Int) ≤ maxI) (k1 k2 : Option γ) : ((loopO step 0).bind fun t => (Sum.elim (fun _ => k1) (fun _ => k2)) t) = if allSame q l m = true then k1 else k2 := by
  have e := same_loop q hlen h1 h2 hl
  cases h : loopO step 0 with
  | none => rw [h] at e; simp at e
  | some t =>
    rw [h] at e
    cases t with
    | inl u => simp at e; rw [if_pos e]; rfl
    | inr u => simp at e; rw [if_neg (by simp [e])]; rfl
theorem sameSessions_same {a b : SSession} (ha : a.Wf) (hb : b.Wf) (k : SessOk a) : ∃ r, spec_SameSessions a b = some r ∧ impl_SameSessions a b = some r := by
  obtain ⟨r1, p1, q1⟩ := sameSenders_same (a := a.Sender) (b := b.Sender) k.send
  obtain ⟨r2, p2, q2⟩ := sameReceivers_same ha.2.1 hb.2.1 k.recv
  have wd := ha.2.2.2.2.2.1.2
  have we := hb.2.2.2.2.2.1.2
  unfold spec_SameSessions impl_SameSessions
  simp only [spec_SameSessions_u1, impl_SameSessions_u1, impl_sameScheduler, impl_sameScheduler_u1, l1Same_eq (small k.win), equal69_eq (small k.win)]
  rw [p1, q1]
  simp only [Option.bind_some]
  rw [p2, q2]
  simp only [Option.bind_some]
  by_cases hf : a.Flights.length = b.Flights.length
  · by_cases hn : a.Notes.length = b.Notes.length
    · rw [equalFlights_eq (small k.fl) (fun x hx => small (k.data x hx)) hf, equalNotes_eq (small k.notes) hn]
      rw [same_loop2 qFlight (l := a.Flights) (m := b.Flights) hf (fun i x y hx hy => by
        have hi : i < a.Flights.length := (List.getElem?_eq_some_iff.1 hx).1
        have wx := (wd x (List.mem_of_getElem? hx)).2.2
        have wy := (we y (List.mem_of_getElem? hy)).2.2
        have hd : ((x.Data.map fun n => UInt8.ofNat n.toNat) == (y.Data.map fun n => UInt8.ofNat n.toNat)) = decide (x.Data = y.Data) := by
          rw [Bool.eq_iff_iff, beq_iff_eq, decide_eq_true_eq]
          exact ⟨bytes_inj (fun z hz => wfU8.1 (wx z hz)) (fun z hz => wfU8.1 (wy z hz)), fun e => by rw [e]⟩
        simp only [spec_SameSessions_s4, decide_eq_true_eq]
        rw [if_pos (by omega)]
        simp only [spec_SameSessions_u3, getI_nat, hx, hy, Option.bind_some, bytesI_eq, hd, qFlight]
        by_cases h1 : x.Due = y.Due <;> by_cases h3 : x.Data = y.Data <;> simp [h1, h3]) (by simp only [spec_SameSessions_s4, decide_eq_true_eq]; rw [if_neg (by omega)]) (small k.fl)]
      rw [same_loop2 qNote (l := a.Notes) (m := b.Notes) hn (fun i x y hx hy => by
        have hi : i < a.Notes.length := (List.getElem?_eq_some_iff.1 hx).1
        simp only [spec_SameSessions_s5, decide_eq_true_eq]
        rw [if_pos (by omega), getI_nat, hx, getI_nat, hy]
        simp only [Option.bind_some, qNote]
        split <;> rename_i hh <;> simp only [hh, if_true, if_false] <;> rfl) (by simp only [spec_SameSessions_s5, decide_eq_true_eq]; rw [if_neg (by omega)]) (small k.notes)]
      generalize allSame qFlight a.Flights b.Flights = F
      generalize allSame qNote a.Notes b.Notes = N
      simp only [hf, hn]
      by_cases h1 : a.Scheduler.Last = b.Scheduler.Last <;> by_cases h2 : a.Scheduler.Window = b.Scheduler.Window <;> by_cases h3 : a.Tick = b.Tick <;> by_cases h4 : a.Wait = b.Wait <;> cases r1 <;> cases r2 <;> cases F <;> cases N <;> simp [h1, h2, h3, h4]
    · rw [equalFlights_eq (small k.fl) (fun x hx => small (k.data x hx)) hf, equalNotes_ne hn]
      have hne : ((a.Notes.length : Int) != (b.Notes.length : Int)) = true := by simp; omega
      generalize allSame qFlight a.Flights b.Flights = F
      simp only [hf, hne]
      by_cases h1 : a.Scheduler.Last = b.Scheduler.Last <;> by_cases h2 : a.Scheduler.Window = b.Scheduler.Window <;> by_cases h3 : a.Tick = b.Tick <;> by_cases h4 : a.Wait = b.Wait <;> cases r1 <;> cases r2 <;> cases F <;> simp [h1, h2, h3, h4]
  · rw [equalFlights_ne hf]
    have hne : ((a.Flights.length : Int) != (b.Flights.length : Int)) = true := by simp; omega
    simp only [hne]
    by_cases h1 : a.Scheduler.Last = b.Scheduler.Last <;> by_cases h2 : a.Scheduler.Window = b.Scheduler.Window <;> by_cases h3 : a.Tick = b.Tick <;> by_cases h4 : a.Wait = b.Wait <;> cases r1 <;> cases r2 <;> simp [h1, h2, h3, h4]
--REST0
theorem pure (a b : SSession) (ha : a.Wf) (hb : b.Wf) : laws_FnExactSameSessions a b = some true := by
  unfold laws_FnExactSameSessions
  obtain ⟨r1, h1, k1⟩ := laws_szSession_spec (n := 1048576) ⟨by omega, by omega⟩ ha
  rw [h1]
  simp only [Option.bind_some, decide_eq_true_eq]
  by_cases c1 : r1 < 0
  · rw [if_pos c1]
  · rw [if_neg c1]
    obtain ⟨g1, g2, ka⟩ := k1.resolve_left c1
    obtain ⟨r2, h2, k2⟩ := laws_szSession_spec (n := r1) ⟨by omega, by omega⟩ hb
    rw [h2]
    simp only [Option.bind_some]
    by_cases c2 : r2 < 0
    · rw [if_pos c2]
    · rw [if_neg c2]
      obtain ⟨_, _, kb⟩ := k2.resolve_left c2
      obtain ⟨r, p, q⟩ := sameSessions_same ha hb ka
      simp only [laws_toSession_eq ka, laws_toSession_eq kb, Option.bind_some, p, q, laws_eqSession_self ka, laws_eqSession_self kb]
      simp
end FnExactSameSessions
end Go.Proofs.Ytjgdnpockaijeaa.Wm
