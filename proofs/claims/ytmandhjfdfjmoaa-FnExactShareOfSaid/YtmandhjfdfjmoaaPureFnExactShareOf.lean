/- The pure statement of the law FnExactShareOf: whatever is given, the printed function of the law comes to true. -/
import Derived.Test.YtmandhjfdfjmoaaPFnExactShareOfx1
import Derived.Test.YtmandhjfdfjmoaaBase
set_option linter.unusedSimpArgs false
set_option linter.unusedVariables false
namespace Go.Proofs.Ytmandhjfdfjmoaa.Pure
open Go.RowKit Go.Proofs.Ytmandhjfdfjmoaa.PFnExactShareOf Go.Proofs.YtmandhjfdfjmoaaW.PrintWords Go.Proofs.YtmandhjfdfjmoaaW.PrintLast Go.Proofs.YtmandhjfdfjmoaaW.PrintMore Base

theorem value_eq (a : Int) : spec_l06Value.f a = impl_isAmount.f a := by
  unfold spec_l06Value.f impl_isAmount.f spec_l01In.f impl_within.f
  rfl
theorem tdiv_ex (a b : Int) (hb : 0 < b) : Int.tdiv a b * b + Int.tmod a b = a ∧ (0 ≤ a → 0 ≤ Int.tmod a b ∧ Int.tmod a b < b) ∧ (a ≤ 0 → Int.tmod a b ≤ 0 ∧ -b < Int.tmod a b) := by
  refine ⟨by rw [Int.mul_comm]; exact Int.mul_tdiv_add_tmod a b, fun h => ⟨Int.tmod_nonneg _ h, Int.tmod_lt_of_pos _ hb⟩, fun h => ?_⟩
  have h1 : Int.tmod a b = - Int.tmod (-a) b := by rw [Int.neg_tmod]; simp
  have h2 := Int.tmod_nonneg b (show 0 ≤ -a by omega)
  have h3 := Int.tmod_lt_of_pos (-a) hb
  omega
theorem floor_eq (a b : Int) (hb : 0 < b) (h1 : -4000000000000000 ≤ a) (h2 : a ≤ 4000000000000000) (h3 : b ≤ 4000000000000000) : ∃ v, spec_l06Floor.f a b = some v ∧ impl_floor.f a b = some v := by
  obtain ⟨e1, e2, e3⟩ := tdiv_ex a b hb
  have hq : -4000000000000000 ≤ Int.tdiv a b ∧ Int.tdiv a b ≤ 4000000000000000 := by
    have hn : (Int.tdiv a b).natAbs ≤ a.natAbs := Int.natAbs_tdiv_le_natAbs a b
    omega
  have hm : wrap64 (Int.tdiv a b) = Int.tdiv a b := wrap64_id (by omega) (by omega)
  have hb2 : -9000000000000000 ≤ Int.tdiv a b * b ∧ Int.tdiv a b * b ≤ 9000000000000000 := by
    by_cases h : 0 ≤ a
    · have := e2 h; omega
    · have := e3 (by omega); omega
  have hm2 : wrap64 (Int.tdiv a b * b) = Int.tdiv a b * b := wrap64_id (by omega) (by omega)
  unfold spec_l06Floor.f impl_floor.f
  have hb0 : ¬ b = 0 := by omega
  rw [if_neg hb0, if_neg hb0, hm, hm2]
  by_cases h : Int.tmod a b < 0
  · have : a < 0 := by
      by_cases h' : 0 ≤ a
      · have := (e2 h').1; omega
      · omega
    exact ⟨_, by rw [if_neg (by omega), if_pos this], by rw [if_pos h]⟩
  · by_cases h0 : Int.tmod a b = 0
    · exact ⟨_, by rw [if_pos (by omega)], by rw [if_neg h]⟩
    · have : ¬ a < 0 := fun h' => by have := e3 (by omega); omega
      exact ⟨_, by rw [if_neg (by omega), if_neg this], by rw [if_neg h]⟩
theorem mx_mn (t : Int) : mx 0 (mn 1000 t) = mn (mx t 0) 1000 := by
  unfold mx mn; split <;> split <;> split <;> (try split) <;> omega
theorem share_j (x y : Int) (k : Nat) (hx : -1000000000 ≤ x ∧ x ≤ 1000000000) (hy : -1000000000 ≤ y ∧ y ≤ 1000000000) : ∃ r, spec_ShareOf.j0 (k + 1) x y false = some r ∧ impl_ShareOf.j0 (k + 1) x y false = some r := by
  simp only [spec_ShareOf.j0, impl_ShareOf.j0, Bool.false_eq_true, if_false]
  by_cases h0 : y = 0
  · exact ⟨_, if_pos h0, if_pos h0⟩
  rw [if_neg h0, if_neg h0]
  have w1 : wrap64 (-x) = -x := wrap64_id (by omega) (by omega)
  have w2 : wrap64 (-y) = -y := wrap64_id (by omega) (by omega)
  have w3 : wrap64 (1000 * -x) = 1000 * -x := wrap64_id (by omega) (by omega)
  have w4 : wrap64 (1000 * x) = 1000 * x := wrap64_id (by omega) (by omega)
  by_cases h1 : y < 0
  · obtain ⟨v, e1, e2⟩ := floor_eq (1000 * -x) (-y) (by omega) (by omega) (by omega) (by omega)
    rw [if_pos h1, if_pos h1, w1, w2, w3, e1, e2]
    exact ⟨_, rfl, by simp only [Option.bind_some]; rw [mx_mn]⟩
  · obtain ⟨v, e1, e2⟩ := floor_eq (1000 * x) y (by omega) (by omega) (by omega) (by omega)
    rw [if_neg h1, if_neg h1, w4, e1, e2]
    exact ⟨_, rfl, by simp only [Option.bind_some]; rw [mx_mn]⟩
theorem amount_val (a : Int) : impl_isAmount.f a = some (decide (-1000000000 ≤ a ∧ a ≤ 1000000000)) := by
  unfold impl_isAmount.f impl_within.f
  by_cases h : a ≥ -1000000000
  · rw [if_pos h]; simp only [Option.bind_some]; congr 1; rw [decide_eq_decide]; omega
  · rw [if_neg h]; simp only [Option.bind_some]; congr 1; symm; apply decide_eq_false; omega
theorem FnExactShareOf : laws_FnExactShareOf.Pure := by
  intro x y hx hy
  refine ⟨1, ?_⟩
  have key : ∃ r, spec_ShareOf.f 1 x y = some r ∧ impl_ShareOf.f 1 x y = some r := by
    unfold spec_ShareOf.f impl_ShareOf.f
    rw [value_eq, value_eq, amount_val, amount_val]
    simp only [Option.bind_some]
    by_cases h1 : -1000000000 ≤ x ∧ x ≤ 1000000000
    · by_cases h2 : -1000000000 ≤ y ∧ y ≤ 1000000000
      · simp only [h1, h2, and_self, decide_true, if_true, Bool.not_true]
        exact share_j x y 0 h1 h2
      · simp only [h1, h2, and_self, decide_true, decide_false, if_true, Bool.not_false]
        exact ⟨(0, 4), by simp [spec_ShareOf.j0], by simp [impl_ShareOf.j0]⟩
    · simp only [h1, decide_false, Bool.false_eq_true, if_false]
      exact ⟨(0, 4), by simp [spec_ShareOf.j0], by simp [impl_ShareOf.j0]⟩
  obtain ⟨r, e1, e2⟩ := key
  unfold laws_FnExactShareOf.f
  rw [e1, e2]; simp

end Go.Proofs.Ytmandhjfdfjmoaa.Pure
