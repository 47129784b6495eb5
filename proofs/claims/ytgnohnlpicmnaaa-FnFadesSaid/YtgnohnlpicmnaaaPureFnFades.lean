/- What FnFades comes to on plain values: true. -/
import Derived.Test.YtgnohnlpicmnaaaFnFnFades
set_option linter.unusedSimpArgs false
set_option linter.unusedVariables false
set_option maxRecDepth 100000
namespace Go.Proofs.Ytgnohnlpicmnaaa.Wm
open Go
namespace FnFades
theorem spec_l1In_eq {a b c : Int} : spec_l1In a b c = decide (b ≤ a ∧ a ≤ c) := by
  simp only [spec_l1In, spec_l1In_u1, decide_eq_true_eq]
  by_cases h1 : b ≤ a <;> by_cases h2 : a ≤ c <;> simp [h1, h2]
theorem impl_inRange_eq {a b c : Int} : impl_inRange a b c = decide (b ≤ a ∧ a ≤ c) := by
  simp only [impl_inRange, impl_inRange_u1, decide_eq_true_eq]
  by_cases h1 : b ≤ a <;> by_cases h2 : a ≤ c <;> simp [h1, h2]
theorem tmod_nn {a b : Int} (ha : 0 ≤ a) (hb : 0 < b) : 0 ≤ a.tmod b ∧ a.tmod b < b := by
  rw [Int.tmod_eq_emod_of_nonneg ha]
  exact ⟨Int.emod_nonneg _ (by omega), Int.emod_lt_of_pos _ hb⟩
def SrcOk (c : List Int) (s : Sl1Src) (k : Int) : Prop := s.Code = c ∧ 0 ≤ s.At ∧ s.At ≤ k
theorem get_mod {c : List Int} {a : Int} (hc : ∀ x ∈ c, 0 ≤ x ∧ x ≤ 255) (ha : 0 ≤ a) (hn : 0 < c.length) : ∃ x, getI c (a.tmod (c.length : Int)) = some x ∧ 0 ≤ x ∧ x ≤ 255 := by
  obtain ⟨h1, h2⟩ := tmod_nn ha (b := (c.length : Int)) (by omega)
  obtain ⟨x, hx, hm⟩ := get_lt (l := c) (i := (a.tmod (c.length : Int)).toNat) (by omega)
  exact ⟨x, by unfold getI; rw [if_pos h1, hx], hc x hm⟩
theorem next_ok {c : List Int} {s : Sl1Src} {k p : Int} (hc : ∀ x ∈ c, 0 ≤ x ∧ x ≤ 255) (hl : (c.length : Int) ≤ 1048576) (hs : SrcOk c s k) (hk : k ≤ 1000000) (hp : 1 ≤ p ∧ p ≤ 100000000) :
    ∃ r, spec_l1Next s p = some (r, ⟨c, s.At + 1⟩) ∧ 0 ≤ r ∧ r < p := by
  obtain ⟨rfl, h0, h1⟩ := hs
  have e1 : IntKind.i64.wrap (s.At + 1) = s.At + 1 := w64 (by omega)
  have e2 : IntKind.i64.wrap (s.At + 1 - 1) = s.At := by rw [w64 (by omega)]; omega
  unfold spec_l1Next
  rw [if_neg (by simp; omega)]
  simp only [e1, e2]
  rcases Nat.eq_zero_or_pos s.Code.length with hz | hz
  · rw [if_pos (by simp [hz]), if_neg (by omega), w64 (by omega)]
    obtain ⟨q1, q2⟩ := tmod_nn (a := s.At * 7) (b := p) (by omega) (by omega)
    exact ⟨_, rfl, q1, q2⟩
  · have hne : ¬ (s.Code.length : Int) = 0 := by omega
    rw [if_neg (by simp; intro h; rw [h] at hz; simp at hz)]
    simp only [hne, if_false]
    obtain ⟨x, hx, hx0, hx1⟩ := get_mod hc h0 hz
    rw [hx]
    simp only [Option.bind_some]
    have hd : 0 ≤ s.At.tdiv (s.Code.length : Int) ∧ s.At.tdiv (s.Code.length : Int) ≤ s.At := by
      rw [Int.tdiv_eq_ediv_of_nonneg h0]
      exact ⟨Int.ediv_nonneg h0 (by omega), Int.ediv_le_self _ h0⟩
    generalize s.At.tdiv (s.Code.length : Int) = d at hd
    rw [w64 (n := x) (by omega), w64 (n := d) (by omega), w64 (n := d * 37) (by omega), w64 (n := x + d * 37) (by omega)]
    have u1 : ∃ v, spec_l1Next_u1 s.Code (s.At + 1) p s.At (s.Code.length : Int) (x + d * 37) (decide (p > 200)) = some v ∧ 0 ≤ v ∧ v ≤ 10000000000 := by
      unfold spec_l1Next_u1
      split
      · rw [w64 (n := s.At + 1) (by omega)]
        obtain ⟨y, hy, hy0, hy1⟩ := get_mod (a := s.At + 1) hc (by omega) hz
        rw [hy]
        simp only [Option.bind_some]
        rw [w64 (n := y) (by omega), w64 (n := y * 13) (by omega), w64 (n := (x + d * 37) * 251) (by omega), w64 (n := (x + d * 37) * 251 + y * 13) (by omega), w64 (n := (x + d * 37) * 251 + y * 13 + s.At) (by omega)]
        exact ⟨_, rfl, by omega, by omega⟩
      · exact ⟨_, rfl, by omega, by omega⟩
    obtain ⟨v, hv, hv0, hv1⟩ := u1
    rw [hv]
    simp only [Option.bind_some]
    have u2 : ∃ v', spec_l1Next_u2 s.Code (s.At + 1) p s.At (s.Code.length : Int) v (decide (p > 60000)) = some v' ∧ 0 ≤ v' := by
      unfold spec_l1Next_u2
      split
      · rw [w64 (n := s.At + 2) (by omega)]
        obtain ⟨y, hy, hy0, hy1⟩ := get_mod (a := s.At + 2) hc (by omega) hz
        rw [hy]
        simp only [Option.bind_some]
        rw [w64 (n := y) (by omega), w64 (n := v * 257) (by omega), w64 (n := v * 257 + y) (by omega)]
        exact ⟨_, rfl, by omega⟩
      · exact ⟨_, rfl, hv0⟩
    obtain ⟨v', hv', hv'0⟩ := u2
    rw [hv']
    simp only [Option.bind_some]
    rw [if_neg (by omega)]
    obtain ⟨q1, q2⟩ := tmod_nn (a := v') (b := p) hv'0 (by omega)
    exact ⟨_, rfl, q1, q2⟩
theorem signed_ok {c : List Int} {s : Sl1Src} {k n : Int} (hc : ∀ x ∈ c, 0 ≤ x ∧ x ≤ 255) (hl : (c.length : Int) ≤ 1048576) (hs : SrcOk c s k) (hk : k ≤ 1000000) (hn : 0 ≤ n ∧ n ≤ 10000000) :
    ∃ r s', spec_l1Signed s n = some (r, s') ∧ -n ≤ r ∧ r ≤ n ∧ SrcOk c s' (k + 1) := by
  unfold spec_l1Signed
  rw [w64 (n := 2 * n) (by omega), w64 (n := 2 * n + 1) (by omega)]
  obtain ⟨r, h1, h2, h3⟩ := next_ok (p := 2 * n + 1) hc hl hs hk (by omega)
  rw [h1]
  obtain ⟨_, a1, a2⟩ := hs
  refine ⟨r - n, _, by simp only [Option.bind_some]; rw [w64 (by omega)], by omega, by omega, rfl, by (first | omega | (simp only []; omega)), by (first | omega | (simp only []; omega))⟩
theorem pick_ok {c : List Int} {s : Sl1Src} {k : Int} {l : List Int} (hc : ∀ x ∈ c, 0 ≤ x ∧ x ≤ 255) (hl : (c.length : Int) ≤ 1048576) (hs : SrcOk c s k) (hk : k ≤ 1000000) (hn : 0 < l.length ∧ l.length ≤ 1000000) :
    ∃ r s', spec_l1Pick s l = some (r, s') ∧ r ∈ l ∧ SrcOk c s' (k + 1) := by
  unfold spec_l1Pick
  obtain ⟨r, h1, h2, h3⟩ := next_ok (p := (l.length : Int)) hc hl hs hk (by omega)
  obtain ⟨x, hx, hm⟩ := get_lt (l := l) (i := r.toNat) (by omega)
  rw [h1]
  obtain ⟨_, a1, a2⟩ := hs
  refine ⟨x, ⟨c, s.At + 1⟩, ?_, hm, rfl, by (first | omega | (simp only []; omega)), by (first | omega | (simp only []; omega))⟩
  simp only [Option.bind_some]
  unfold getI
  rw [if_pos h2, hx]; rfl
theorem source_ok {c : List Int} : SrcOk c (spec_l1Source c) 0 := by unfold SrcOk spec_l1Source; simp
theorem drawCoef_ok {c : List Int} {s : Sl1Src} {k : Int} (hc : ∀ x ∈ c, 0 ≤ x ∧ x ≤ 255) (hl : (c.length : Int) ≤ 1048576) (hs : SrcOk c s k) (hk : k ≤ 999990) :
    ∃ r s', spec_l9DrawCoef s = some (r, s') ∧ SrcOk c s' (k + 4) := by
  unfold spec_l9DrawCoef
  obtain ⟨r1, s1, h1, _, _, k1⟩ := signed_ok (n := 30) hc hl hs (by omega) (by omega)
  obtain ⟨r2, s2, h2, _, _, k2⟩ := signed_ok (n := 3000) hc hl k1 (by omega) (by omega)
  obtain ⟨r3, s3, h3, _, _, k3⟩ := signed_ok (n := 200000) hc hl k2 (by omega) (by omega)
  obtain ⟨r4, s4, h4, _, k4⟩ := pick_ok (l := [0, 1, (-1), r1, r2, r3, 16777216, (-16777216)]) hc hl k3 (by omega) (by simp)
  refine ⟨r4, s4, by simp only [h1, h2, h3, h4, Option.bind_some], ?_⟩
  have e : k + 1 + 1 + 1 + 1 = k + 4 := by omega
  rw [← e]; exact k4
theorem drawFade_ok {c : List Int} (hc : ∀ x ∈ c, 0 ≤ x ∧ x ≤ 255) (hl : (c.length : Int) ≤ 1048576) : ∃ a b, spec_DrawFadeOf c = some (a, b) := by
  unfold spec_DrawFadeOf
  obtain ⟨r1, s1, h1, k1⟩ := drawCoef_ok hc hl source_ok (by omega)
  obtain ⟨r2, s2, h2, k2⟩ := drawCoef_ok hc hl k1 (by omega)
  obtain ⟨r3, s3, h3, _, k3⟩ := pick_ok (l := [r1, r2, 7, (-7), 16777217]) hc hl k2 (by omega) (by simp)
  obtain ⟨r4, s4, h4, _, k4⟩ := pick_ok (l := [1, 2, 3, 4, 5, 100, 101, 0]) hc hl k3 (by omega) (by simp)
  exact ⟨r3, r4, by simp only [h1, h2, h3, h4, Option.bind_some]⟩
theorem td4 (x : Int) : (0 ≤ x ∧ x.tdiv 4 = x / 4) ∨ (x < 0 ∧ x.tdiv 4 = -((-x) / 4)) := by
  rcases Int.lt_or_le x 0 with h | h
  · right
    refine ⟨h, ?_⟩
    have : x = -(-x) := by omega
    rw [this, Int.neg_tdiv, Int.tdiv_eq_ediv_of_nonneg (by omega)]; simp
  · exact .inl ⟨h, Int.tdiv_eq_ediv_of_nonneg h⟩
/-- What is left of a coefficient. -/
def fadeI (c n : Int) : Int := if n ≥ 4 then 0 else ((4 - n) * c).tdiv 4
theorem coef_eq {c : Int} : impl_isCoef c = decide (-16777216 ≤ c ∧ c ≤ 16777216) := by
  unfold impl_isCoef impl_within
  rw [impl_inRange_eq, w64 (by omega)]; rfl
theorem fade_impl {c n : Int} : impl_FadeOf c n = if (-16777216 ≤ c ∧ c ≤ 16777216) ∧ 1 ≤ n ∧ n ≤ 100 then ⟨0, fadeI c n⟩ else ⟨3, 0⟩ := by
  unfold impl_FadeOf
  simp only [impl_FadeOf_u1, coef_eq, impl_inRange_eq, decide_eq_true_eq]
  by_cases h1 : -16777216 ≤ c ∧ c ≤ 16777216
  · by_cases h2 : 1 ≤ n ∧ n ≤ 100
    · rw [if_pos h1, decide_eq_true h2, if_neg (by simp), if_pos ⟨h1, h2⟩]
      unfold impl_fadeOf fadeI
      rw [w64 (n := 4 - n) (by omega)]
      by_cases h4 : n ≥ 4
      · rw [if_neg (by omega), if_pos h4]
        rw [Int.zero_mul, w64 (n := 0) (by omega), show (0 : Int).tdiv 4 = 0 from rfl, w64 (by omega)]
      · rw [if_pos (by omega), if_neg h4]
        have hb : -50331648 ≤ (4 - n) * c ∧ (4 - n) * c ≤ 50331648 := by
          have : n = 1 ∨ n = 2 ∨ n = 3 := by omega
          rcases this with rfl | rfl | rfl <;> omega
        rw [w64 (n := (4 - n) * c) (by omega)]
        have := td4 ((4 - n) * c)
        rw [w64 (by omega)]
    · rw [if_pos h1, decide_eq_false h2, if_pos (by simp), if_neg (fun h => h2 h.2)]
  · rw [if_neg h1, if_pos rfl, if_neg (fun h => h1 h.1)]
theorem fade_spec {c n : Int} : spec_FadeOf c n = impl_FadeOf c n := by
  rw [fade_impl]
  unfold spec_FadeOf
  simp only [spec_FadeOf_u1, spec_l9Coef, spec_l1In_eq, decide_eq_true_eq]
  by_cases h1 : -16777216 ≤ c ∧ c ≤ 16777216
  · by_cases h2 : 1 ≤ n ∧ n ≤ 100
    · rw [if_pos h1, decide_eq_true h2, if_neg (by simp), if_pos ⟨h1, h2⟩]
      unfold spec_l18Fade fadeI
      by_cases h4 : n ≥ 4
      · rw [if_pos (by simpa using h4), if_pos h4]
      · rw [if_neg (by simpa using h4), if_neg h4]
        have hb : -50331648 ≤ (4 - n) * c ∧ (4 - n) * c ≤ 50331648 := by
          have : n = 1 ∨ n = 2 ∨ n = 3 := by omega
          rcases this with rfl | rfl | rfl <;> omega
        rw [w64 (n := 4 - n) (by omega), w64 (n := (4 - n) * c) (by omega)]
        have := td4 ((4 - n) * c)
        rw [w64 (by omega)]
    · rw [if_pos h1, decide_eq_false h2, if_pos (by simp), if_neg (fun h => h2 h.2)]
  · rw [if_neg h1, if_pos rfl, if_neg (fun h => h1 h.1)]
theorem abs_eq {n : Int} (h : -9223372036854775807 ≤ n ∧ n ≤ 9223372036854775807) : laws_lwAbs n = if n < 0 then -n else n := by
  unfold laws_lwAbs
  simp only [decide_eq_true_eq]
  split
  · rw [w64 (by omega)]; omega
  · rfl
--REST0
theorem pure (c : List Int) (hc : (c.length : Int) ≤ maxI ∧ ∀ x ∈ c, WfI .u8 x) : laws_FnFades c = some true := by
  unfold laws_FnFades
  by_cases hb : laws_lwBig c = true
  · rw [if_pos hb]
  · rw [if_neg hb]
    have hl : (c.length : Int) ≤ 1048576 := by simp [laws_lwBig] at hb; omega
    obtain ⟨a, n, hd⟩ := drawFade_ok (fun x hx => wfU8.1 (hc.2 x hx)) hl
    rw [hd]
    simp only [Option.bind_some, fade_spec]
    rw [if_pos (by simp)]
    by_cases hk : (-16777216 ≤ a ∧ a ≤ 16777216) ∧ 1 ≤ n ∧ n ≤ 100
    · have e0 : impl_FadeOf a n = ⟨0, fadeI a n⟩ := by rw [fade_impl, if_pos hk]
      have e2 : impl_FadeOf (-a) n = ⟨0, fadeI (-a) n⟩ := by rw [fade_impl, if_pos (by omega)]
      have b0 : -16777216 ≤ fadeI a n ∧ fadeI a n ≤ 16777216 ∧ (if fadeI a n < 0 then -fadeI a n else fadeI a n) ≤ (if a < 0 then -a else a) ∧ fadeI (-a) n = -fadeI a n ∧ (4 ≤ n → fadeI a n = 0) ∧
          (1 < n → (if fadeI a n < 0 then -fadeI a n else fadeI a n) ≤ (if fadeI a (n - 1) < 0 then -fadeI a (n - 1) else fadeI a (n - 1)) ∧ -16777216 ≤ fadeI a (n - 1) ∧ fadeI a (n - 1) ≤ 16777216) := by
        unfold fadeI
        by_cases h4 : n ≥ 4
        · have q1 := td4 ((4 - (n - 1)) * a)
          by_cases h5 : n - 1 ≥ 4
          · simp [h4, h5]; split <;> omega
          · obtain rfl : n = 4 := by omega
            simp at q1 ⊢
            refine ⟨by split <;> omega, ?_, ?_⟩ <;> (try split) <;> omega
        · have : n = 1 ∨ n = 2 ∨ n = 3 := by omega
          have q1 := td4 ((4 - n) * a)
          have q2 := td4 ((4 - n) * -a)
          have q3 := td4 ((4 - (n - 1)) * a)
          rcases this with rfl | rfl | rfl <;> simp at q1 q2 q3 ⊢ <;> omega
      obtain ⟨b1, b2, b3, b4, b5, b6⟩ := b0
      simp only [e0, laws_FnFades_u1, laws_FnFades_u2]
      rw [w64 (n := 0 - a) (by omega), w64 (n := 0 - fadeI a n) (by omega), abs_eq (n := fadeI a n) (by omega), abs_eq (n := a) (by omega)]
      have e3 : 0 - a = -a := by omega
      rw [e3, e2]
      simp only [b4, decide_eq_true b3]
      have hz : (decide (n ≥ 4) = true → (fadeI a n != 0) = false) := fun h => by simp at h; rw [b5 h]; rfl
      by_cases h1 : n > 1
      · obtain ⟨c1, c2, c3⟩ := b6 h1
        have e4 : impl_FadeOf a (IntKind.i64.wrap (n - 1)) = ⟨0, fadeI a (n - 1)⟩ := by rw [w64 (by omega), fade_impl, if_pos (by omega)]
        rw [e4]
        simp only []
        rw [abs_eq (n := fadeI a (n - 1)) (by omega)]
        have e5 : decide ((if fadeI a n < 0 then -fadeI a n else fadeI a n) > (if fadeI a (n - 1) < 0 then -fadeI a (n - 1) else fadeI a (n - 1))) = false := decide_eq_false (by omega)
        have e6 : (0 : Int) ≤ (if fadeI a (n - 1) < 0 then -fadeI a (n - 1) else fadeI a (n - 1)) := by split <;> omega
        by_cases h4 : n ≥ 4
        · simp [h1, h4, e5, b5 h4, e6]
        · simp [h1, h4, e5]
      · by_cases h4 : n ≥ 4
        · omega
        · simp [h1, h4]
    · have e0 : impl_FadeOf a n = ⟨3, 0⟩ := by rw [fade_impl, if_neg hk]
      rw [e0]; rfl
end FnFades
end Go.Proofs.Ytgnohnlpicmnaaa.Wm
