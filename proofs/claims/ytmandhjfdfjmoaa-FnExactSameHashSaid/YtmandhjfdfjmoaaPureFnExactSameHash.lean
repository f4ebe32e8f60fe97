/- The pure statement of the law FnExactSameHash: whatever is given, the printed function of the law comes to true. -/
import Derived.Test.YtmandhjfdfjmoaaPFnExactSameHashx1
import Derived.Test.YtmandhjfdfjmoaaBase
set_option linter.unusedSimpArgs false
set_option linter.unusedVariables false
namespace Go.Proofs.Ytmandhjfdfjmoaa.Pure
open Go.RowKit Go.Proofs.Ytmandhjfdfjmoaa.PFnExactSameHash Go.Proofs.YtmandhjfdfjmoaaW.PrintWords Go.Proofs.YtmandhjfdfjmoaaW.PrintLast Go.Proofs.YtmandhjfdfjmoaaW.PrintMore Base

theorem FnExactSameHash : laws_FnExactSameHash.Pure := by
  intro a b ha hb
  unfold laws_FnExactSameHash.f spec_SameHash.f impl_SameHash.f impl_hashOK.f
  by_cases h1 : (a.size : Int) > 1048576
  · rw [if_pos h1]
  rw [if_neg h1]
  by_cases h2 : (b.size : Int) > 1048576
  · rw [if_pos h2]
  rw [if_neg h2]
  by_cases h3 : (a.size : Int) = 32
  · by_cases h4 : a.toList = b.toList
    · have h5 : a.size = b.size := by rw [← toList_length a, ← toList_length b, h4]
      rw [if_neg (by omega), if_neg (by omega), if_pos h3]
      simp [h3, h4]
    · have h5 : (a.toList == b.toList) = false := by simpa using h4
      by_cases h6 : (b.size : Int) > 65536
      · rw [if_neg (by omega), if_pos h6, h5]
        simp [h3]
      · rw [if_neg (by omega), if_neg h6, if_pos h3, h5]
        simp [h3]
  · by_cases h4 : (a.size : Int) > 65536
    · rw [if_pos h4]; simp [h3]
    · rw [if_neg h4]
      by_cases h6 : (b.size : Int) > 65536
      · rw [if_pos h6]; simp [h3]
      · rw [if_neg h6, if_neg h3]; simp [h3]

end Go.Proofs.Ytmandhjfdfjmoaa.Pure
