/- For all arguments the program's FadeOf and the reference's FadeOf give the same code and the same value. No conditions. -/
import Derived.Test.YtgnohnlpicmnaaaPFnExactFadeOfx1
namespace Go.Proofs.Ytgnohnlpicmnaaa.Pure
open Go.Proofs.YtgnohnlpicmnaaaW.PrintMore Go.RowKit Go.Proofs.Ytgnohnlpicmnaaa.PFnExactFadeOf Go.Proofs.YtgnohnlpicmnaaaW.PrintWords Go.Proofs.YtgnohnlpicmnaaaW.PrintLast

theorem fade_same (a0 a1 : Int) (h1 : 1 ≤ a1) (h2 : a1 ≤ 100) : impl_fadeOf.f a0 a1 = spec_l18Fade.f a0 a1 := by
  have e : wrap64 (4 - a1) = 4 - a1 := by unfold wrap64; omega
  unfold impl_fadeOf.f spec_l18Fade.f
  rw [e]
  by_cases h : a1 ≥ 4
  · rw [if_pos h]
    have : mx 0 (4 - a1) = 0 := by
      unfold mx; split <;> omega
    rw [this]; simp [wrap64]
  · rw [if_neg h]
    have : mx 0 (4 - a1) = 4 - a1 := by
      unfold mx; split <;> omega
    rw [this]

theorem in_same (a b c : Int) : impl_inRange.f a b c = spec_l1In.f a b c := by
  unfold impl_inRange.f spec_l1In.f; rfl

theorem FnExactFadeOf : laws_FnExactFadeOf.Pure := by
  intro a0 a1 _ _
  have hw : wrap64 (-16777216) = -16777216 := by unfold wrap64; omega
  have e : impl_FadeOf.f a0 a1 = spec_FadeOf.f a0 a1 := by
    unfold impl_FadeOf.f spec_FadeOf.f impl_isCoef.f impl_within.f spec_l9Coef.f
    rw [hw]
    simp only [in_same]
    unfold spec_l1In.f
    by_cases h1 : a1 ≥ 1
    · by_cases h2 : a1 ≤ 100
      · simp [h1, h2, fade_same a0 a1 (by omega) h2]
      · simp [h1, h2]
    · simp [h1]
  have hs : ∃ r, spec_FadeOf.f a0 a1 = some r := by
    unfold spec_FadeOf.f spec_l9Coef.f spec_l1In.f spec_l18Fade.f
    by_cases h1 : a0 ≥ -16777216 <;> by_cases h2 : a0 ≤ 16777216 <;> by_cases h3 : a1 ≥ 1 <;> by_cases h4 : a1 ≤ 100 <;> by_cases h5 : a1 ≥ 4 <;> simp [h1, h2, h3, h4, h5]
  obtain ⟨r, hr⟩ := hs
  unfold laws_FnExactFadeOf.f
  rw [e, hr]
  simp [laws_eqIntResult.f]

end Go.Proofs.Ytgnohnlpicmnaaa.Pure
