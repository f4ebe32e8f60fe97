/- The pure statement of the law FnExactMeterAdd: whatever is given, the printed function of the law comes to true. -/
import Derived.Test.YtmandhjfdfjmoaaPAllx7
import Derived.Test.YtmandhjfdfjmoaaBase
set_option linter.unusedSimpArgs false
set_option linter.unusedVariables false
namespace Go.Proofs.Ytmandhjfdfjmoaa.Pure
open Go.RowKit Go.Proofs.Ytmandhjfdfjmoaa.PAll Go.Proofs.YtmandhjfdfjmoaaW.PrintWords Go.Proofs.YtmandhjfdfjmoaaW.PrintLast Go.Proofs.YtmandhjfdfjmoaaW.PrintMore Base

theorem tdiv_ex (a b : Int) (hb : 0 < b) : Int.tdiv a b * b + Int.tmod a b = a ∧ (0 ≤ a → 0 ≤ Int.tmod a b ∧ Int.tmod a b < b) ∧ (a ≤ 0 → Int.tmod a b ≤ 0 ∧ -b < Int.tmod a b) := by
  refine ⟨by rw [Int.mul_comm]; exact Int.mul_tdiv_add_tmod a b, fun h => ⟨Int.tmod_nonneg _ h, Int.tmod_lt_of_pos _ hb⟩, fun h => ?_⟩
  have h1 : Int.tmod a b = - Int.tmod (-a) b := by rw [Int.neg_tmod]; simp
  have h2 := Int.tmod_nonneg b (show 0 ≤ -a by omega)
  have h3 := Int.tmod_lt_of_pos (-a) hb
  omega
theorem floor_eq (a b : Int) (hb : 0 < b) (h1 : -4000000000000000 ≤ a) (h2 : a ≤ 4000000000000000) (h3 : b ≤ 4000000000000000) : ∃ v, spec_l06Floor.f a b = some v ∧ impl_floor.f a b = some v := by
  obtain ⟨e1, e2, e3⟩ := tdiv_ex a b hb
  have hq : -4000000000000000 ≤ Int.tdiv a b ∧ Int.tdiv a b ≤ 4000000000000000 := by
    have hn : (Int.tdiv a b).natAbs ≤ a.natAbs := Int.natAbs_tdiv_le_natAbs a b
    omega
  have hm : wrap64 (Int.tdiv a b) = Int.tdiv a b := wrap64_id (by omega) (by omega)
  have hb2 : -9000000000000000 ≤ Int.tdiv a b * b ∧ Int.tdiv a b * b ≤ 9000000000000000 := by
    by_cases h : 0 ≤ a
    · have := e2 h; omega
    · have := e3 (by omega); omega
  have hm2 : wrap64 (Int.tdiv a b * b) = Int.tdiv a b * b := wrap64_id (by omega) (by omega)
  unfold spec_l06Floor.f impl_floor.f
  have hb0 : ¬ b = 0 := by omega
  rw [if_neg hb0, if_neg hb0, hm, hm2]
  by_cases h : Int.tmod a b < 0
  · have : a < 0 := by
      by_cases h' : 0 ≤ a
      · have := (e2 h').1; omega
      · omega
    exact ⟨_, by rw [if_neg (by omega), if_pos this], by rw [if_pos h]⟩
  · by_cases h0 : Int.tmod a b = 0
    · exact ⟨_, by rw [if_pos (by omega)], by rw [if_neg h]⟩
    · have : ¬ a < 0 := fun h' => by have := e3 (by omega); omega
      exact ⟨_, by rw [if_neg (by omega), if_neg this], by rw [if_neg h]⟩
-- USES: Floor
theorem met_in (a b c : Int) : spec_l01In.f a b c = some (decide (b ≤ a ∧ a ≤ c)) := by
  unfold spec_l01In.f
  by_cases h : b ≤ a
  · rw [if_pos h]; simp [h]
  · rw [if_neg h]; simp [h]
theorem met_within (a b c : Int) : impl_within.f a b c = some (decide (b ≤ a ∧ a ≤ c)) := by
  rw [← met_in]; rfl
theorem met_value (a : Int) : spec_l06Value.f a = some (decide (-1000000000 ≤ a ∧ a ≤ 1000000000)) := by
  unfold spec_l06Value.f; rw [met_in]; rfl
theorem met_amount (a : Int) : impl_isAmount.f a = some (decide (-1000000000 ≤ a ∧ a ≤ 1000000000)) := by
  unfold impl_isAmount.f; rw [met_within]; rfl
theorem met_ok (m l h c : Int) : ∃ r, spec_l06Meter.f m l h c = some r ∧ impl_meterOK.f m l h c = some r ∧ (r = true → c ≠ 0 → 1 ≤ c ∧ c ≤ 1000000 ∧ -1000000000 ≤ m ∧ m ≤ 1000000000) := by
  unfold spec_l06Meter.f impl_meterOK.f
  cases hz : (m == 0 && (l == 0 && (h == 0 && (c == 0)))) with
  | true =>
    refine ⟨true, by simp only [if_true], by simp only [if_true], fun _ hc => ?_⟩
    simp at hz
    exact absurd hz.2.2.2 hc
  | false =>
    simp only [met_in, met_within, met_value, met_amount, Option.bind_some, Bool.false_eq_true, if_false]
    by_cases h1 : 1 ≤ c ∧ c ≤ 1000000
    · by_cases h2 : -1000000000 ≤ l ∧ l ≤ 1000000000
      · by_cases h3 : -1000000000 ≤ h ∧ h ≤ 1000000000
        · by_cases h4 : l ≤ m
          · refine ⟨decide (m ≤ h), by simp only [h1, h2, h3, h4, and_self, decide_true, if_true], by simp only [h1, h2, h3, h4, and_self, decide_true, if_true, true_and], fun hr _ => ?_⟩
            have := of_decide_eq_true hr
            omega
          · exact ⟨false, by simp only [h1, h2, h3, h4, and_self, decide_true, if_true, if_false], by simp only [h1, h2, h3, h4, and_self, decide_true, if_true, false_and, decide_false], fun hr => by cases hr⟩
        · exact ⟨false, by simp [h1, h2, h3], by simp [h1, h2, h3], fun hr => by cases hr⟩
      · exact ⟨false, by simp [h1, h2], by simp [h1, h2], fun hr => by cases hr⟩
    · exact ⟨false, by simp [h1], by simp [h1], fun hr => by cases hr⟩
theorem mn_swap (x : Int) : mn 1000000 x = mn x 1000000 := by
  unfold mn; split <;> split <;> omega
theorem met_add (m l h c x : Int) : ∃ r, spec_MeterAdd.f m l h c x = some r ∧ impl_MeterAdd.f m l h c x = some r := by
  obtain ⟨r, e1, e2, hr⟩ := met_ok m l h c
  unfold spec_MeterAdd.f impl_MeterAdd.f
  simp only [e1, e2, Option.bind_some, met_value, met_amount]
  cases r with
  | false => exact ⟨(0, 0, 0, 0, 1), by simp, by simp⟩
  | true =>
    simp only [if_true]
    by_cases h1 : -1000000000 ≤ x ∧ x ≤ 1000000000
    · simp only [h1, and_self, decide_true, if_true]
      by_cases h0 : c = 0
      · exact ⟨_, if_pos h0, if_pos h0⟩
      · rw [if_neg h0, if_neg h0]
        have hb := hr rfl h0
        have w : wrap64 (x - m) = x - m := wrap64_id (by omega) (by omega)
        obtain ⟨v, f1, f2⟩ := floor_eq (x - m) 4 (by omega) (by omega) (by omega) (by omega)
        rw [w, f1, f2]
        exact ⟨_, rfl, by simp only [Option.bind_some]; rw [mn_swap]⟩
    · simp only [h1, decide_false, Bool.false_eq_true, if_false]
      exact ⟨_, rfl, rfl⟩
theorem FnExactMeterAdd : laws_FnExactMeterAdd.Pure := by
  intro m l h c x _ _ _ _ _
  obtain ⟨r, e1, e2⟩ := met_add m l h c x
  unfold laws_FnExactMeterAdd.f laws_toMeter.f laws_eqMeter.f
  simp only [Option.bind_some, e1, e2]
  simp

end Go.Proofs.Ytmandhjfdfjmoaa.Pure
