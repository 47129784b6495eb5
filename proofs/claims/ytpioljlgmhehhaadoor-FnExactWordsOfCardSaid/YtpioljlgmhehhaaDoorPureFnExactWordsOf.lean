/- What FnExactWordsOf comes to on plain values: true. -/
import Derived.Test.YtpioljlgmhehhaaDoorFnFnExactWordsOf
set_option linter.unusedSimpArgs false
set_option linter.unusedVariables false
set_option maxRecDepth 100000
namespace Go.Proofs.YtpioljlgmhehhaaDoor.Wm
open Go
namespace FnExactWordsOf
def cutAux (c : UInt8) : List UInt8 → List UInt8 → List (List UInt8)
  | mid, [] => [mid]
  | mid, b :: t => if b = c then mid :: cutAux c [] t else cutAux c (mid ++ [b]) t
theorem cutAux_nil {c : UInt8} {mid : List UInt8} : cutAux c mid [] = [mid] := by rw [cutAux]
theorem cutAux_hit {c : UInt8} {mid t : List UInt8} : cutAux c mid (c :: t) = mid :: cutAux c [] t := by rw [cutAux, if_pos rfl]
theorem cutAux_miss {c b : UInt8} {mid t : List UInt8} (h : b ≠ c) : cutAux c mid (b :: t) = cutAux c (mid ++ [b]) t := by rw [cutAux, if_neg h]
theorem cutAux_len (c : UInt8) : ∀ (s mid : List UInt8), 1 ≤ (cutAux c mid s).length ∧ (cutAux c mid s).length ≤ s.length + 1
  | [], mid => by rw [cutAux_nil]; simp
  | b :: t, mid => by
    by_cases h : b = c
    · subst h
      have := cutAux_len b t []
      rw [cutAux_hit]; simp only [List.length_cons]; omega
    · have := cutAux_len c t (mid ++ [b])
      rw [cutAux_miss h]; simp only [List.length_cons]; omega
theorem indexByte_at (c : UInt8) (t : List UInt8) : ∀ (mid : List UInt8), (∀ x ∈ mid, x ≠ c) → Lib.indexByte (mid ++ c :: t) c = (mid.length : Int)
  | [], _ => by simp [Lib.indexByte]
  | b :: mid, h => by
    have hb : (b == c) = false := by simpa using h b (by simp)
    have ih := indexByte_at c t mid (fun x hx => h x (by simp [hx]))
    simp only [List.cons_append, Lib.indexByte, hb, ih]
    have : ((mid.length : Int) == -1) = false := by simp
    rw [this]
    simp
theorem split_cut (c : UInt8) : ∀ (s mid : List UInt8), (∀ x ∈ mid, x ≠ c) → Lib.splitK [c] 0 (Lib.count (mid ++ s) [c]) (mid ++ s) = cutAux c mid s
  | [], mid, h => by
    have : Lib.count (mid ++ []) [c] = 0 := by
      rw [Lib.count_one, List.append_nil]
      exact List.count_eq_zero.2 fun hm => h c hm rfl
    rw [this, cutAux_nil, List.append_nil]; rfl
  | b :: t, mid, h => by
    by_cases hb : b = c
    · subst hb
      have hc : Lib.count (mid ++ b :: t) [b] = Lib.count t [b] + 1 := by
        rw [Lib.count_one, Lib.count_one, List.count_append, List.count_cons_self, List.count_eq_zero.2 fun hm => h b hm rfl]; omega
      have hi : Lib.index (mid ++ b :: t) [b] = (mid.length : Int) := by rw [Lib.index_one]; exact indexByte_at b t mid h
      have ih := split_cut b t [] (by simp)
      rw [List.nil_append] at ih
      rw [hc, cutAux_hit, Lib.splitK, hi, if_neg (by simp), Int.toNat_natCast]
      rw [show mid.length + 0 = mid.length from rfl, List.take_left, show mid.length + [b].length = (mid ++ [b]).length by simp, show mid ++ b :: t = (mid ++ [b]) ++ t by simp, List.drop_left, ih]
    · have ih := split_cut c t (mid ++ [b]) (by
        intro x hx
        rcases List.mem_append.1 hx with hx | hx
        · exact h x hx
        · rw [List.mem_singleton] at hx; subst hx; exact hb)
      rw [cutAux_miss hb, ← ih]; simp
theorem splitL_cut {p : List UInt8} {c : UInt8} : splitL p [c] = cutAux c [] p := by
  unfold splitL
  rw [Lib.splitB_data]
  exact split_cut c p [] (by simp)
theorem subI_mid {pre mid rest : List UInt8} (h : (pre ++ mid ++ rest).length ≤ 1048576) : subI (pre ++ mid ++ rest) (pre.length : Int) ((pre.length + mid.length : Nat) : Int) = some mid := by
  unfold subI cutI
  rw [if_pos (by simp; omega), if_pos (by omega)]
  simp only [Option.map_some, Int.toNat_natCast, Nat.add_sub_cancel_left, List.append_assoc, List.drop_left, List.take_left]
theorem cut_loop {p : List UInt8} {c : UInt8} (hp : p.length ≤ 1048576) : ∀ (rest pre mid : List UInt8) (out : List (List UInt8)), p = pre ++ mid ++ rest → out.length ≤ pre.length + mid.length →
    loopO (spec_l1Cut_s7 p (c.toNat : Int)) (out, (pre.length : Int), ((pre.length + mid.length : Nat) : Int)) = some (out ++ cutAux c mid rest)
  | [], pre, mid, out, e, ho => by
    have hl : p.length = pre.length + mid.length := by rw [e]; simp
    have hs : subI p (pre.length : Int) ((pre.length + mid.length : Nat) : Int) = some mid := by rw [e]; exact subI_mid (by rw [← e]; exact hp)
    rw [loopO_eq]
    simp only [spec_l1Cut_s7, spec_l1Cut_u6, spec_l1Cut_u4, spec_l1Cut_u5, decide_eq_true_eq]
    rw [if_pos (by omega), if_pos (by simp; omega)]
    simp only [Option.bind_some, if_true, hs]
    rw [if_pos (okApp_of (by simp; omega)), w64 (by omega)]
    simp only [Option.bind_some]
    rw [loopO_eq]
    simp only [spec_l1Cut_s7, decide_eq_true_eq]
    rw [if_neg (by omega)]
    simp only [cutAux_nil]
  | b :: rest, pre, mid, out, e, ho => by
    have hl : p.length = pre.length + mid.length + (rest.length + 1) := by rw [e]; simp; omega
    have hs : subI p (pre.length : Int) ((pre.length + mid.length : Nat) : Int) = some mid := by rw [e]; exact subI_mid (by rw [← e]; exact hp)
    have hg : p[pre.length + mid.length]? = some b := by rw [e]; simp
    rw [loopO_eq]
    simp only [spec_l1Cut_s7, spec_l1Cut_u6, spec_l1Cut_u4, spec_l1Cut_u5, decide_eq_true_eq]
    rw [if_pos (by omega), if_neg (by simp; omega), getI_nat, hg]
    simp only [Option.bind_some, hs]
    by_cases hb : b = c
    · subst hb
      have ih := cut_loop (c := b) hp rest (pre ++ mid ++ [b]) [] (out ++ [mid]) (by rw [e]; simp) (by simp; omega)
      have e1 : ((pre ++ mid ++ [b]).length : Int) = ((pre.length + mid.length : Nat) : Int) + 1 := by simp; omega
      have e2 : (((pre ++ mid ++ [b]).length + ([] : List UInt8).length : Nat) : Int) = ((pre.length + mid.length : Nat) : Int) + 1 := by simp; omega
      rw [e1, e2] at ih
      simp only [beq_self_eq_true, if_true]
      rw [if_pos (okApp_of (by simp; omega)), w64 (by omega)]
      simp only [Option.bind_some, ih, cutAux_hit]
      simp
    · have hn : ((b.toNat : Int) == (c.toNat : Int)) = false := by
        simp only [beq_eq_false_iff_ne, ne_eq]
        intro q; exact hb (UInt8.toNat_inj.1 (by omega))
      have ih := cut_loop (c := c) hp rest pre (mid ++ [b]) out (by rw [e]; simp) (by simp; omega)
      have e1 : ((pre.length + (mid ++ [b]).length : Nat) : Int) = ((pre.length + mid.length : Nat) : Int) + 1 := by simp; omega
      rw [e1] at ih
      rw [hn]
      simp only [Bool.false_eq_true, if_false, Option.bind_some]
      rw [w64 (by omega), ih, cutAux_miss hb]
theorem l1Cut_eq {p : List UInt8} {c : UInt8} (hp : p.length ≤ 1048576) : spec_l1Cut p (c.toNat : Int) = some (cutAux c [] p) := by
  unfold spec_l1Cut
  have := cut_loop (c := c) hp p [] [] [] (by simp) (by simp)
  simp only [List.length_nil, List.nil_append] at this
  have e : loopO (spec_l1Cut_s7 p (c.toNat : Int)) ([], 0, 0) = some (cutAux c [] p) := this
  rw [e]; rfl
theorem words_eq {l : List (List UInt8)} (hl : l.length ≤ 1048576) : loopO (spec_l22Words_s5 l) ([], 0) = some (l.filter fun x => !(x == [])) := by
  obtain ⟨t, h1, rfl⟩ := loop_rule (step := spec_l22Words_s5 l) (fun i s => s = ((l.take i).filter fun x => !(x == []), (i : Int))) (fun t => t = l.filter fun x => !(x == [])) l.length (by
    rintro i s hi rfl
    simp only [spec_l22Words_s5, spec_l22Words_u4, spec_l22Words_u3, decide_eq_true_eq]
    rcases Nat.lt_or_ge i l.length with h | h
    · left
      obtain ⟨x, hx, _⟩ := get_lt h
      have hb : ((l.take i).filter fun x => !(x == [])).length ≤ i := Nat.le_trans (List.length_filter_le _ _) (by simp; omega)
      rw [if_pos (by omega), getI_nat, hx, Int.toNat_natCast, hx, w64 (by omega)]
      simp only [Option.bind_some, getI_nat, hx]
      by_cases hn : (x.length : Int) > 0
      · have hx0 : (!(x == [])) = true := by
          cases x with
          | nil => simp at hn
          | cons => simp
        rw [if_pos hn, if_pos (okApp_of (by simp only [List.length_append, List.length_cons, List.length_nil]; omega))]
        refine ⟨h, _, rfl, ?_⟩
        rw [List.take_add_one, hx]
        simp only [Option.toList_some, List.filter_append, List.filter_cons, hx0, if_true, List.filter_nil]
        simp
      · have hx0 : (!(x == [])) = false := by
          cases x with
          | nil => simp
          | cons => simp at hn
        rw [if_neg hn]
        refine ⟨h, _, rfl, ?_⟩
        rw [List.take_add_one, hx]
        simp only [Option.toList_some, List.filter_append, List.filter_cons, hx0, Bool.false_eq_true, if_false, List.filter_nil, List.append_nil]
        simp
    · right
      rw [if_neg (by omega)]
      exact ⟨_, rfl, by rw [List.take_of_length_le h]⟩) (s := ([], 0)) (by simp)
  exact h1
theorem wordsOf_same {p : List UInt8} (hp : p.length ≤ 2000) : spec_l22Words p = some ((cutAux 32 [] p).filter fun x => !(x == [])) ∧ impl_wordsOf p = some ((cutAux 32 [] p).filter fun x => !(x == [])) := by
  have hl := cutAux_len 32 p []
  refine ⟨?_, ?_⟩
  · unfold spec_l22Words
    have := l1Cut_eq (c := 32) (p := p) (by omega)
    rw [show ((32 : UInt8).toNat : Int) = 32 from rfl] at this
    rw [this]
    simp only [Option.bind_some]
    rw [words_eq (by omega)]; rfl
  · unfold impl_wordsOf strings_Split slices_DeleteFunc_string
    rw [if_pos (show okSplit p [32] = true from decide_eq_true ⟨by omega, by simp⟩)]
    simp only [Option.bind_some, splitL_cut]
    rw [if_pos (show okDel (cutAux 32 [] p) = true from decide_eq_true ⟨by
      cases h : cutAux 32 [] p with
      | nil => rw [h] at hl; simp at hl
      | cons => rfl, by omega⟩)]
    rfl
theorem markText_some {k : Int} (hk : 0 ≤ k ∧ k ≤ 4611686018427387904) : ∃ r, laws_markText k = some r := by
  unfold laws_markText
  by_cases h0 : k ≤ 0
  · rw [if_pos (decide_eq_true h0)]; exact ⟨_, rfl⟩
  rw [if_neg (by simpa using h0)]
  have tens : ∀ i : Nat, i < 19 → (10 : Int) ^ (19 - i) = 10 * (10 : Int) ^ (19 - (i + 1)) := fun i hi => by
    rw [show 19 - i = (19 - (i + 1)) + 1 by omega, Int.pow_succ]; omega
  obtain ⟨t, h1, h2⟩ := loop_rule (step := laws_markText_s1) (fun i s => 0 ≤ s.1 ∧ s.1 ≤ 4611686018427387904 ∧ s.1 < (10 : Int) ^ (19 - i) ∧ s.2.length ≤ i) (fun t => t.length ≤ 19) 19 (by
    rintro i ⟨a, b⟩ hi ⟨ha, ha2, hp, hb⟩
    simp only at ha ha2 hp hb
    simp only [laws_markText_s1, decide_eq_true_eq]
    by_cases hpos : a > 0
    · left
      have hi' : i < 19 := by
        rcases Nat.lt_or_ge i 19 with q | q
        · exact q
        · obtain rfl : i = 19 := by omega
          simp at hp; omega
      have ht := tens i hi'
      rw [if_pos hpos, Int.tmod_eq_emod_of_nonneg ha, Int.tdiv_eq_ediv_of_nonneg ha, w64 (n := 48 + a % 10) (by omega), wu8 (by omega), bytesI_eq]
      simp only [Option.bind_some, List.map_cons, List.map_nil]
      rw [if_pos (by simp; omega), w64 (by omega)]
      exact ⟨hi', _, rfl, by simp only []; omega, by simp only []; omega, by simp only []; omega, by simp; omega⟩
    · right
      rw [if_neg hpos]
      exact ⟨_, rfl, by omega⟩) (s := (k, [])) ⟨by omega, hk.2, by simp only []; exact Int.lt_of_le_of_lt hk.2 (by decide), by simp⟩
  rw [h1]
  simp only [Option.bind_some]
  rw [if_pos (by simp; omega)]
  exact ⟨_, rfl⟩
theorem markTexts {l : List (List UInt8)} (hl : l.length ≤ 1048576) : ∃ l', laws_markStringS l 1 = some (1 + (l.length : Int), l') ∧ l'.length = l.length ∧ laws_heldStringS l' 1 = some (1 + (l.length : Int)) := by
  unfold laws_markStringS
  obtain ⟨t, h1, h2, h3, h4⟩ := loop_rule (step := laws_markStringS_s1) (fun i s => s.2.1 = 1 + (i : Int) ∧ s.2.2 = (i : Int) ∧ s.1.length = l.length ∧ ∀ (j : Nat) x, j < i → s.1[j]? = some x → laws_markText (1 + (j : Int)) = some x)
      (fun t => t.2 = 1 + (l.length : Int) ∧ t.1.length = l.length ∧ ∀ (j : Nat) x, j < l.length → t.1[j]? = some x → laws_markText (1 + (j : Int)) = some x) l.length (by
    rintro i ⟨a, m, n⟩ hi ⟨hm, hn, ha, hj⟩
    simp only at hm hn ha hj
    subst hm hn
    simp only [laws_markStringS_s1, decide_eq_true_eq]
    rcases Nat.lt_or_ge i l.length with hh | hh
    · left
      obtain ⟨y, hy, _⟩ := get_lt (l := a) (i := i) (by omega)
      obtain ⟨r, hr⟩ := markText_some (k := 1 + (i : Int)) (by omega)
      rw [if_pos (by omega), hr, getI_nat, hy, Int.toNat_natCast, hy, w64 (n := 1 + (i : Int) + 1) (by omega), w64 (by omega)]
      refine ⟨hh, _, rfl, by simp only []; omega, by simp, by simp [ha], fun j x hj' hx => ?_⟩
      simp only at hx
      rcases Nat.lt_or_ge j i with hji | hji
      · rw [List.getElem?_set_ne (by omega)] at hx; exact hj j x hji hx
      · obtain rfl : j = i := by omega
        rw [List.getElem?_set_self (by omega)] at hx
        obtain rfl := Option.some.inj hx; exact hr
    · right
      obtain rfl : i = l.length := by omega
      rw [if_neg (by omega)]
      exact ⟨_, rfl, rfl, ha, hj⟩) (s := (l, 1, 0)) ⟨by simp, rfl, rfl, fun j x h => by omega⟩
  rw [h1]
  obtain ⟨a, b⟩ := t
  simp only at h2 h3 h4
  subst h2
  refine ⟨a, rfl, h3, ?_⟩
  unfold laws_heldStringS
  obtain ⟨t, q1, rfl⟩ := loop_rule (step := laws_heldStringS_s1 a) (fun i s => s = (1 + (i : Int), (i : Int))) (fun t => t = .inl (1 + (a.length : Int))) a.length (by
    rintro i s hi rfl
    simp only [laws_heldStringS_s1, decide_eq_true_eq]
    rcases Nat.lt_or_ge i a.length with hh | hh
    · left
      obtain ⟨x, hx, _⟩ := get_lt hh
      rw [if_pos (by omega), getI_nat, hx]
      simp only [Option.bind_some, h4 i x (by omega) hx, beq_self_eq_true, if_true]
      rw [w64 (by omega), w64 (by omega)]
      exact ⟨hh, _, rfl, by simp only [Prod.mk.injEq]; omega⟩
    · right
      obtain rfl : i = a.length := by omega
      rw [if_neg (by omega)]
      exact ⟨_, rfl, rfl⟩) (s := (1, 0)) (by simp)
  rw [q1, h3]; rfl
theorem eqTexts_self {l : List (List UInt8)} (hl : l.length ≤ 1048576) : laws_eqStringS l l = some true := by
  unfold laws_eqStringS
  rw [if_neg (by simp)]
  obtain ⟨t, h1, rfl⟩ := loop_rule (step := laws_eqStringS_s1 l l) (fun i s => s = (i : Int)) (fun t => t = .inl ()) l.length (by
    rintro i s hi rfl
    simp only [laws_eqStringS_s1, decide_eq_true_eq]
    rcases Nat.lt_or_ge i l.length with h | h
    · left
      obtain ⟨x, hx, _⟩ := get_lt h
      rw [if_pos (by omega), getI_nat, hx, w64 (by omega)]
      simp only [Option.bind_some, beq_self_eq_true, if_true]
      exact ⟨h, _, rfl, by simp⟩
    · right
      rw [if_neg (by omega)]
      exact ⟨_, rfl, rfl⟩) (s := 0) rfl
  rw [h1]; rfl
--REST0
theorem pure (p : List UInt8) (hp : (p.length : Int) ≤ maxI) : laws_FnExactWordsOf p = some true := by
  unfold laws_FnExactWordsOf
  by_cases h : (p.length : Int) > 1048576
  · rw [if_pos (decide_eq_true h)]
  rw [if_neg (by simpa using h)]
  obtain ⟨g, g1, g2, g3⟩ : ∃ g, spec_WordsOf p = some g ∧ impl_WordsOf p = some g ∧ g.Words.length ≤ 1048576 := by
    unfold spec_WordsOf impl_WordsOf
    by_cases h2 : (p.length : Int) > 2000
    · rw [if_pos (decide_eq_true h2), if_pos (decide_eq_true h2)]
      exact ⟨_, rfl, rfl, by simp⟩
    · rw [if_neg (by simpa using h2), if_neg (by simpa using h2)]
      obtain ⟨a, b⟩ := wordsOf_same (p := p) (by omega)
      have hl := (cutAux_len 32 p []).2
      have hf : ((cutAux 32 [] p).filter fun x => !(x == [])).length ≤ (cutAux 32 [] p).length := List.length_filter_le _ _
      rw [a, b]
      exact ⟨_, rfl, rfl, by simp only []; omega⟩
  have heq : laws_eqWordsResult ⟨g.Code, g.Words⟩ ⟨g.Code, g.Words⟩ = some true := by
    unfold laws_eqWordsResult
    simp [eqTexts_self g3]
  obtain ⟨l', m1, m2, m3⟩ := markTexts g3
  have hm : laws_markWordsResult_o ⟨g.Code, g.Words⟩ 1 = some (1 + (g.Words.length : Int), SWordsResult.mk g.Code l') := by
    unfold laws_markWordsResult_o
    simp [m1, m2]
  have hh : laws_heldWordsResult ⟨g.Code, l'⟩ 1 = some (1 + (g.Words.length : Int)) := by
    unfold laws_heldWordsResult
    simp only [m3, Option.bind_some, decide_eq_true_eq]
    rw [if_neg (by omega)]
  have hn : ¬ ((1 : Int) + g.Words.length < 0) := by omega
  unfold laws_FnExactWordsOf_u2 laws_FnExactWordsOf_u1
  simp only [g1, g2, heq, hm, hh, hn, m2, Option.bind_some, Bool.not_true, Bool.false_eq_true, if_false, if_true, decide_eq_true_eq, bne_self_eq_false]
end FnExactWordsOf
end Go.Proofs.YtpioljlgmhehhaaDoor.Wm
