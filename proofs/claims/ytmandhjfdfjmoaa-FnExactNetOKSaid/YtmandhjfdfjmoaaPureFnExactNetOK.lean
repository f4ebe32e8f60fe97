/- The pure statement of the law FnExactNetOK: whatever is given, the printed function of the law comes to true. -/
import Derived.Test.YtmandhjfdfjmoaaPAllx3
import Derived.Test.YtmandhjfdfjmoaaBase
set_option linter.unusedSimpArgs false
set_option linter.unusedVariables false
namespace Go.Proofs.Ytmandhjfdfjmoaa.Pure
open Go.RowKit Go.Proofs.Ytmandhjfdfjmoaa.PAll Go.Proofs.YtmandhjfdfjmoaaW.PrintWords Go.Proofs.YtmandhjfdfjmoaaW.PrintLast Go.Proofs.YtmandhjfdfjmoaaW.PrintMore Base

theorem netok_in (a b c : Int) : spec_l01In.f a b c = some (decide (b ≤ a ∧ a ≤ c)) := by
  unfold spec_l01In.f
  by_cases h : b ≤ a
  · rw [if_pos h]; simp [h]
  · rw [if_neg h]; simp [h]
theorem netok_within (a b c : Int) : impl_within.f a b c = some (decide (b ≤ a ∧ a ≤ c)) := by
  rw [← netok_in]; rfl
theorem netok_eq (a b : Int) : ∃ r, spec_NetOK.f a b = some r ∧ impl_NetOK.f a b = some r := by
  unfold spec_NetOK.f impl_NetOK.f spec_l01Ip.f impl_isAddress.f
  simp only [netok_in, netok_within, Option.bind_some]
  by_cases h1 : 0 ≤ a ∧ a ≤ 4294967295
  · by_cases h2 : 0 ≤ b ∧ b ≤ 32
    · have w1 : wrap64 (32 - b) = 32 - b := wrap64_id (by omega) (by omega)
      have w2 : IntKind.u64.wrap (32 - b) = 32 - b := by rw [wrap_u64]; omega
      simp only [h1, h2, w1, w2, and_self, decide_true, if_true]
      have h3 : 0 ≤ 32 - b := by omega
      exact ⟨_, if_pos h3⟩
    · exact ⟨false, by simp only [h1, h2, and_self, decide_true, decide_false, if_true, Bool.false_eq_true, if_false], by simp only [h1, h2, and_self, decide_true, decide_false, if_true, Bool.false_eq_true, if_false]⟩
  · exact ⟨false, by simp only [h1, decide_false, Bool.false_eq_true, if_false], by simp only [h1, decide_false, Bool.false_eq_true, if_false]⟩
theorem FnExactNetOK : laws_FnExactNetOK.Pure := by
  intro a b ha hb
  obtain ⟨r, e1, e2⟩ := netok_eq a b
  unfold laws_FnExactNetOK.f laws_toNet.f
  simp only [Option.bind_some, e1, e2]
  simp

end Go.Proofs.Ytmandhjfdfjmoaa.Pure
