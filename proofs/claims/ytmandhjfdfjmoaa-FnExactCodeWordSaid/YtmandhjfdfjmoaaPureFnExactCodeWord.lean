/- The pure statement of the law FnExactCodeWord: whatever is given, the printed function of the law comes to true. -/
import Derived.Test.YtmandhjfdfjmoaaPFnExactCodeWordx1
import Derived.Test.YtmandhjfdfjmoaaBase
set_option linter.unusedSimpArgs false
set_option linter.unusedVariables false
namespace Go.Proofs.Ytmandhjfdfjmoaa.Pure
open Go.RowKit Go.Proofs.Ytmandhjfdfjmoaa.PFnExactCodeWord Go.Proofs.YtmandhjfdfjmoaaW.PrintWords Go.Proofs.YtmandhjfdfjmoaaW.PrintLast Go.Proofs.YtmandhjfdfjmoaaW.PrintMore Base

theorem words_spec (a : Int) : spec_CodeWord.f a = (impl_codeWords.f).bind fun y101 => (if a < 0 then (some (⟨#[]⟩ : ByteArray)) else (if a ≥ (y101.length : Int) then (some (⟨#[]⟩ : ByteArray)) else (if 0 ≤ a then (if a < (y101.length : Int) then (some (rdOf ByteArray.empty y101 a)) else (none)) else (none)))) := rfl
theorem FnExactCodeWord : laws_FnExactCodeWord.Pure := by
  intro a ha
  obtain ⟨L, hL, hlen⟩ : ∃ L, impl_codeWords.f = some L ∧ L.length = 20 := ⟨_, rfl, rfl⟩
  unfold laws_FnExactCodeWord.f impl_CodeWord.f impl_within.f
  rw [words_spec, hL]
  simp only [Option.bind_some, hlen]
  have w19 : wrap64 (((20 : Nat) : Int) - 1) = 19 := wrap64_id (by omega) (by omega)
  simp only [w19]
  by_cases h1 : a < 0
  · rw [if_pos h1, if_neg (by omega)]; simp
  · by_cases h2 : a < 20
    · rw [if_neg h1, if_neg (by omega), if_pos (by omega), if_pos (by omega)]
      have : decide (a ≤ 19) = true := decide_eq_true (by omega)
      rw [if_pos (show a ≥ 0 by omega)]
      simp [this]
    · rw [if_neg h1, if_pos (by omega), if_pos (by omega)]
      have : decide (a ≤ 19) = false := decide_eq_false (by omega)
      simp [this]

end Go.Proofs.Ytmandhjfdfjmoaa.Pure
