/- The pure statement of the law FnExactFlagsText: whatever is given, the printed function of the law comes to true. -/
import Derived.Test.YtmandhjfdfjmoaaPAllBx2
import Derived.Test.YtmandhjfdfjmoaaBase
set_option linter.unusedSimpArgs false
set_option linter.unusedVariables false
namespace Go.Proofs.Ytmandhjfdfjmoaa.Pure
open Go.RowKit Go.Proofs.Ytmandhjfdfjmoaa.PAllB Go.Proofs.YtmandhjfdfjmoaaW.PrintWords Go.Proofs.YtmandhjfdfjmoaaW.PrintLast Go.Proofs.YtmandhjfdfjmoaaW.PrintMore Base

theorem flags_all : ∀ n : Fin 32, (spec_FlagsText.f 7 ((n.val : Nat) : Int)).map (fun p => (p.1.data.toList, p.2)) = some ((impl_flagsText.out ((n.val : Nat) : Int) 5).data.toList, 0) := by decide +kernel
theorem flags_in (a b c : Int) : spec_l01In.f a b c = some (decide (b ≤ a ∧ a ≤ c)) := by
  unfold spec_l01In.f
  by_cases h : b ≤ a
  · rw [if_pos h]; simp [h]
  · rw [if_neg h]; simp [h]
theorem flags_within (a b c : Int) : impl_within.f a b c = some (decide (b ≤ a ∧ a ≤ c)) := by
  rw [← flags_in]; rfl
theorem FnExactFlagsText : laws_FnExactFlagsText.Pure := by
  intro a ha
  refine ⟨7, ?_⟩
  by_cases h : 0 ≤ a ∧ a ≤ 31
  · have hn := flags_all ⟨a.toNat, by omega⟩
    simp only [Int.toNat_of_nonneg h.1] at hn
    obtain ⟨p, hp, he⟩ := Option.map_eq_some_iff.1 hn
    have h1 := (Prod.mk.inj he).1
    have h2 := (Prod.mk.inj he).2
    unfold laws_FnExactFlagsText.f impl_FlagsText.f
    rw [hp, flags_within]
    simp only [h, and_self, decide_true, Option.bind_some, if_true, impl_flagsText.f]
    rw [if_pos (by rw [toList_data, toList_data, h1]), if_pos h2.symm]
  · unfold laws_FnExactFlagsText.f impl_FlagsText.f spec_FlagsText.f
    rw [flags_within, flags_in]
    simp [h]

end Go.Proofs.Ytmandhjfdfjmoaa.Pure
