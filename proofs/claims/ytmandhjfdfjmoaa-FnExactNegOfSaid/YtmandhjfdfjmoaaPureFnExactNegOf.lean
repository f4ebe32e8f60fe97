/- The pure statement of the law FnExactNegOf: whatever is given, the printed function of the law comes to true. -/
import Derived.Test.YtmandhjfdfjmoaaPAllx4
import Derived.Test.YtmandhjfdfjmoaaBase
set_option linter.unusedSimpArgs false
set_option linter.unusedVariables false
namespace Go.Proofs.Ytmandhjfdfjmoaa.Pure
open Go.RowKit Go.Proofs.Ytmandhjfdfjmoaa.PAll Go.Proofs.YtmandhjfdfjmoaaW.PrintWords Go.Proofs.YtmandhjfdfjmoaaW.PrintLast Go.Proofs.YtmandhjfdfjmoaaW.PrintMore Base

theorem word_eq (a b : Int) : spec_l06Word.f a b = impl_wordOK.f a b := by
  unfold spec_l06Word.f impl_wordOK.f spec_l01Ip.f spec_l01In.f impl_within.f
  simp only [ge_iff_le, Option.bind_some, Option.bind_fun_some]
theorem neg_eq (a b : Int) : spec_NegOf.f a b = impl_NegOf.f a b := by
  unfold spec_NegOf.f impl_NegOf.f
  rw [word_eq]
theorem neg_within (a b c : Int) : impl_within.f a b c = some (decide (b ≤ a ∧ a ≤ c)) := by
  unfold impl_within.f
  by_cases h : b ≤ a
  · rw [if_pos h]; simp [h]
  · rw [if_neg h]; simp [h]
theorem word_some (a b : Int) : ∃ r, impl_wordOK.f a b = some r := by
  unfold impl_wordOK.f
  simp only [neg_within, Option.bind_some]
  cases decide (0 ≤ a ∧ a ≤ 4294967295)
  · exact ⟨_, rfl⟩
  · exact ⟨_, rfl⟩
theorem neg_some (a b : Int) : ∃ r, impl_NegOf.f a b = some r := by
  unfold impl_NegOf.f
  obtain ⟨r, e⟩ := word_some a b
  rw [e]; cases r <;> simp
theorem FnExactNegOf : laws_FnExactNegOf.Pure := by
  intro a b ha hb
  obtain ⟨r, e⟩ := neg_some a b
  unfold laws_FnExactNegOf.f laws_toWord.f laws_eqWord.f
  simp only [Option.bind_some, neg_eq, e]
  simp

end Go.Proofs.Ytmandhjfdfjmoaa.Pure
