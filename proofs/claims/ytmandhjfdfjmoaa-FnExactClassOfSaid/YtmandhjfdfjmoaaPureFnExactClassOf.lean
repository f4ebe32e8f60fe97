/- The pure statement of the law FnExactClassOf: whatever is given, the printed function of the law comes to true. -/
import Derived.Test.YtmandhjfdfjmoaaPAllBx4
import Derived.Test.YtmandhjfdfjmoaaBase
import Derived.Laws.BitsLemmas
set_option linter.unusedSimpArgs false
set_option linter.unusedVariables false
namespace Go.Proofs.Ytmandhjfdfjmoaa.Pure
open Go.RowKit Go.Proofs.Ytmandhjfdfjmoaa.PAllB Go.Proofs.YtmandhjfdfjmoaaW.PrintWords Go.Proofs.YtmandhjfdfjmoaaW.PrintLast Go.Proofs.YtmandhjfdfjmoaaW.PrintMore Base

-- IMPORTS: Derived.Laws.BitsLemmas
theorem and_nat (a : Int) (m : Nat) (h0 : 0 ≤ a) (h1 : a < 4294967296) (hm : m < 4294967296) : Go.bits .and .i64 a (m : Int) = ((a.toNat &&& m : Nat) : Int) := by
  obtain ⟨n, rfl⟩ := Int.eq_ofNat_of_zero_le h0
  have h := (bits_nat .i64 32 (by decide) (fun x hx hy => by rw [IntKind.wrap_i64]; omega) n m (by omega) (by omega)).1
  rw [h]; rfl
theorem and_31 (n : Nat) : n &&& 2147483647 = n % 2147483648 := Nat.and_two_pow_sub_one_eq_mod n 31
theorem and_20 (n : Nat) : n &&& 1048575 = n % 1048576 := Nat.and_two_pow_sub_one_eq_mod n 20
theorem and_sign (n : Nat) : n &&& 2147483648 = n / 2147483648 % 2 * 2147483648 := by
  apply Nat.eq_of_testBit_eq
  intro i
  rw [show 2147483648 = 2 ^ 31 from rfl, Nat.testBit_and, Nat.testBit_mul_two_pow, Nat.testBit_two_pow, show n / 2 ^ 31 % 2 = n / 2 ^ 31 % 2 ^ 1 from rfl, Nat.testBit_mod_two_pow, Nat.testBit_div_two_pow]
  by_cases h : 31 ≤ i
  · rw [show i - 31 + 31 = i by omega]
    by_cases h2 : i = 31
    · subst h2; simp
    · simp [h, show ¬ i - 31 < 1 by omega, show ¬ 31 = i by omega]
  · simp [h, show ¬ 31 = i by omega]
theorem and_exp (n : Nat) : n &&& 2146435072 = n % 2147483648 / 1048576 * 1048576 := by
  apply Nat.eq_of_testBit_eq
  intro i
  rw [Nat.testBit_and, show 2146435072 = (2 ^ 11 - 1) * 2 ^ 20 from rfl, show 2147483648 = 2 ^ 31 from rfl, show 1048576 = 2 ^ 20 from rfl, Nat.testBit_mul_two_pow, Nat.testBit_mul_two_pow, Nat.testBit_two_pow_sub_one, Nat.testBit_div_two_pow, Nat.testBit_mod_two_pow]
  by_cases h : 20 ≤ i
  · rw [show i - 20 + 20 = i by omega]
    by_cases h2 : i < 31
    · simp [h, h2, show i - 20 < 11 by omega]
    · simp [h, h2, show ¬ i - 20 < 11 by omega]
  · simp [h]
theorem cls_in (a b c : Int) : spec_l01In.f a b c = some (decide (b ≤ a ∧ a ≤ c)) := by
  unfold spec_l01In.f
  by_cases h : b ≤ a
  · rw [if_pos h]; simp [h]
  · rw [if_neg h]; simp [h]
theorem cls_word (a b : Int) : spec_l06Word.f a b = some (decide (0 ≤ a ∧ a ≤ 4294967295) && decide (0 ≤ b ∧ b ≤ 4294967295)) := by
  unfold spec_l06Word.f spec_l01Ip.f
  simp only [cls_in, Option.bind_some]
  cases decide (0 ≤ a ∧ a ≤ 4294967295) <;> simp
theorem cls_within (a b c : Int) : impl_within.f a b c = some (decide (b ≤ a ∧ a ≤ c)) := by
  rw [← cls_in]; rfl
theorem cls_ok (a b : Int) : impl_wordOK.f a b = some (decide (0 ≤ a ∧ a ≤ 4294967295) && decide (0 ≤ b ∧ b ≤ 4294967295)) := by
  unfold impl_wordOK.f
  simp only [cls_within, Option.bind_some]
  cases decide (0 ≤ a ∧ a ≤ 4294967295) <;> simp
theorem cls_eq (a b : Int) (k : Nat) (ha : 0 ≤ a ∧ a ≤ 4294967295) (hb : 0 ≤ b ∧ b ≤ 4294967295) : ∃ r, spec_l06Class.f (k + 3) a b = some r ∧ impl_Word_class.f a b = some r := by
  obtain ⟨n, rfl⟩ := Int.eq_ofNat_of_zero_le ha.1
  have hn : n < 4294967296 := by omega
  have e1 := and_nat (n : Int) 2147483647 (by omega) (by omega) (by decide)
  have e2 := and_nat (n : Int) 2147483648 (by omega) (by omega) (by decide)
  have e3 := and_nat (n : Int) 1048575 (by omega) (by omega) (by decide)
  have e4 := and_nat (n : Int) 2146435072 (by omega) (by omega) (by decide)
  rw [Int.toNat_natCast] at e1 e2 e3 e4
  rw [and_31] at e1
  rw [and_sign] at e2
  rw [and_20] at e3
  rw [and_exp] at e4
  simp only [Int.cast_ofNat_Int] at e1 e2 e3 e4
  unfold spec_l06Class.f spec_l06Size.f spec_l06Minus.f impl_Word_class.f
  rw [e1, e2, e3, e4]
  simp only [Option.bind_some]
  obtain ⟨s, q, r, hs, hq, hr, hn2⟩ : ∃ s q r : Nat, s < 2 ∧ q < 2048 ∧ r < 1048576 ∧ n = s * 2147483648 + q * 1048576 + r := ⟨n / 2147483648, n % 2147483648 / 1048576, n % 1048576, by omega, by omega, by omega, by omega⟩
  have m1 : n % 2147483648 = q * 1048576 + r := by omega
  have m2 : n / 2147483648 = s := by omega
  have m3 : n % 1048576 = r := by omega
  have m4 : n % 2147483648 / 1048576 = q := by omega
  have m5 : (n : Int) / 2147483648 = (s : Int) := by omega
  rw [m1, m2, m3, m5, show (q * 1048576 + r) / 1048576 = q by omega]
  have bsgn : (((s % 2 * 2147483648 : Nat) : Int) != 0) = ((s : Int) == 1) := by
    rw [Bool.eq_iff_iff]; simp; omega
  have bexp : (((q * 1048576 : Nat) : Int) == 2146435072) = decide (q = 2047) := by
    rw [Bool.eq_iff_iff]; simp; omega
  have bnil : (((q * 1048576 : Nat) : Int) == 0) = decide (q = 0) := by
    rw [Bool.eq_iff_iff]; simp; omega
  have bfr : (((r : Nat) : Int) == 0) = decide (r = 0) := by
    rw [Bool.eq_iff_iff]; simp
  rw [bsgn, bexp, bnil, bfr]
  generalize ((s : Int) == 1) = m
  unfold impl_Word_class.v
  by_cases c1 : q = 2047
  · by_cases c2 : r = 0
    · by_cases c3 : b = 0
      · have g1 : ¬ ((q * 1048576 + r : Nat) : Int) > 2146435072 := by omega
        have g2 : ((q * 1048576 + r : Nat) : Int) = 2146435072 := by omega
        rw [if_neg g1, if_pos g2]
        cases m <;> simp [spec_l06Class.j0, spec_l06Class.j1, c1, c2, c3]
      · have g1 : ¬ ((q * 1048576 + r : Nat) : Int) > 2146435072 := by omega
        have g2 : ((q * 1048576 + r : Nat) : Int) = 2146435072 := by omega
        have g3 : decide (b > 0) = true := decide_eq_true (by omega)
        rw [if_neg g1, if_pos g2, g3]
        cases m <;> simp [spec_l06Class.j0, c1, c2, c3]
    · have g1 : ((q * 1048576 + r : Nat) : Int) > 2146435072 := by omega
      rw [if_pos g1]
      cases m <;> simp [spec_l06Class.j0, c1, c2]
  · have g1 : ¬ ((q * 1048576 + r : Nat) : Int) > 2146435072 := by omega
    have g2 : ¬ ((q * 1048576 + r : Nat) : Int) = 2146435072 := by omega
    rw [if_neg g1, if_neg g2]
    have g4 : (((q * 1048576 + r : Nat) : Int) == 0 && b == 0) = (decide (q = 0) && (decide (r = 0) && b == 0)) := by
      rw [Bool.eq_iff_iff]; simp; omega
    simp only [spec_l06Class.j0, spec_l06Class.j1, spec_l06Class.j2, g2, g4, c1, if_false, Bool.false_eq_true, decide_false]
    cases m <;> cases decide (q = 0) <;> cases decide (r = 0) <;> cases (b == 0) <;> simp [spec_l06Class.j1, spec_l06Class.j2, g2, g4]
theorem FnExactClassOf : laws_FnExactClassOf.Pure := by
  intro a b _ _
  refine ⟨3, ?_⟩
  unfold laws_FnExactClassOf.f laws_toWord.f spec_ClassOf.f impl_ClassOf.f
  simp only [Option.bind_some, cls_word, cls_ok]
  by_cases ha : 0 ≤ a ∧ a ≤ 4294967295
  · by_cases hb : 0 ≤ b ∧ b ≤ 4294967295
    · obtain ⟨r, h1, h2⟩ := cls_eq a b 0 ha hb
      simp only [ha, hb, and_self, decide_true, Bool.and_true, if_true, h1, h2, Option.bind_some]
    · simp [ha, hb]
  · simp [ha]

end Go.Proofs.Ytmandhjfdfjmoaa.Pure
