/- The pure statement of the law FnExactNameOK: whatever is given, the printed function of the law comes to true. -/
import Derived.Test.YtmandhjfdfjmoaaPFnExactNameOKx2
import Derived.Test.YtmandhjfdfjmoaaBase
set_option linter.unusedSimpArgs false
set_option linter.unusedVariables false
namespace Go.Proofs.Ytmandhjfdfjmoaa.Pure
open Go.RowKit Go.Proofs.Ytmandhjfdfjmoaa.PFnExactNameOK Go.Proofs.YtmandhjfdfjmoaaW.PrintWords Go.Proofs.YtmandhjfdfjmoaaW.PrintLast Go.Proofs.YtmandhjfdfjmoaaW.PrintMore Base

def letterB (c : Int) : Bool := (decide (97 ≤ c) && decide (c ≤ 122)) || ((decide (65 ≤ c) && decide (c ≤ 90)) || c == 95)
def digitB (c : Int) : Bool := decide (48 ≤ c) && decide (c ≤ 57)
theorem letter_spec (c : Int) : spec_l00Letter.f c = some (letterB c) := by
  unfold spec_l00Letter.f letterB
  repeat' split
  all_goals
    congr 1
    rw [Bool.eq_iff_iff]
    simp only [Bool.or_eq_true, Bool.and_eq_true, decide_eq_true_eq, beq_iff_eq, true_iff]
    omega
theorem letter_impl (c : Int) : impl_isLetter.f c = some (letterB c) := by
  rw [← letter_spec]; rfl
theorem digit_spec (c : Int) : spec_l00Digit.f c = some (digitB c) := by
  unfold spec_l00Digit.f digitB
  split
  all_goals
    congr 1
    rw [Bool.eq_iff_iff]
    simp only [Bool.and_eq_true, decide_eq_true_eq, Bool.false_eq_true, false_iff]
    omega
theorem digit_impl (c : Int) : impl_isDigit.f c = some (digitB c) := by
  rw [← digit_spec]; rfl
theorem names_joint (s : ByteArray) (hs : s.size ≤ 140737488351232) (d : Nat) : ∀ i : Int, 0 ≤ i → i ≤ s.size → (s.size : Int) - i = d →
    ∃ r, Ev (fun k => spec_l00Word.l0 k s i) r ∧ Ev (fun k => impl_NameOK.l0 k s (s.size : Int) i) r := by
  induction d with
  | zero =>
    intro i h0 h1 hd
    refine ⟨true, Ev.step (f := fun _ => some true) (fun k => ?_) (Ev.now _), Ev.step (f := fun _ => some true) (fun k => ?_) (Ev.now _)⟩
    · simp only [spec_l00Word.l0]; rw [if_neg (by omega)]
    · simp only [impl_NameOK.l0]; rw [if_neg (by omega)]
  | succ d ih =>
    intro i h0 h1 hd
    obtain ⟨r, hr1, hr2⟩ := ih (i + 1) (by omega) (by omega) (by omega)
    have hw : wrap64 (i + 1) = i + 1 := wrap64_id (by omega) (by omega)
    cases hl : letterB (bt s i) with
    | true =>
      refine ⟨r, Ev.step (f := fun k => spec_l00Word.l0 k s (i + 1)) (fun k => ?_) hr1, Ev.step (f := fun k => impl_NameOK.l0 k s (s.size : Int) (i + 1)) (fun k => ?_) hr2⟩
      · simp only [spec_l00Word.l0]; rw [if_pos (by omega), if_pos h0, letter_spec, hl, hw]; simp
      · simp only [impl_NameOK.l0]; rw [if_pos (by omega), if_pos h0, if_pos (by omega), letter_impl, hl, hw]; simp
    | false =>
      cases hg : digitB (bt s i) with
      | true =>
        refine ⟨r, Ev.step (f := fun k => spec_l00Word.l0 k s (i + 1)) (fun k => ?_) hr1, Ev.step (f := fun k => impl_NameOK.l0 k s (s.size : Int) (i + 1)) (fun k => ?_) hr2⟩
        · simp only [spec_l00Word.l0]; rw [if_pos (by omega), if_pos h0, letter_spec, hl, digit_spec, hg, hw]; simp
        · simp only [impl_NameOK.l0]; rw [if_pos (by omega), if_pos h0, if_pos (by omega), letter_impl, hl, digit_impl, hg, hw]; simp
      | false =>
        refine ⟨false, Ev.step (f := fun _ => some false) (fun k => ?_) (Ev.now _), Ev.step (f := fun _ => some false) (fun k => ?_) (Ev.now _)⟩
        · simp only [spec_l00Word.l0]; rw [if_pos (by omega), if_pos h0, letter_spec, hl, digit_spec, hg]; simp
        · simp only [impl_NameOK.l0]; rw [if_pos (by omega), if_pos h0, if_pos (by omega), letter_impl, hl, digit_impl, hg]; simp
theorem letter_not_digit {c : Int} (h : letterB c = true) : digitB c = false := by
  simp only [letterB, digitB, Bool.or_eq_true, Bool.and_eq_true, decide_eq_true_eq, beq_iff_eq] at h ⊢
  simp
  omega
theorem FnExactNameOK : laws_FnExactNameOK.Pure := by
  intro s hs
  have key : ∃ r, Ev (fun k => spec_NameOK.f k s) r ∧ Ev (fun k => impl_NameOK.f k s) r := by
    unfold spec_NameOK.f spec_l00Word.f impl_NameOK.f impl_within.f
    by_cases h1 : (s.size : Int) < 1
    · refine ⟨false, Ev.step (f := fun _ => some false) (fun k => ?_) (Ev.now _), Ev.step (f := fun _ => some false) (fun k => ?_) (Ev.now _)⟩
      · rw [if_pos h1]; simp [spec_l00Word.j0]
      · rw [if_neg (by omega)]; simp [impl_NameOK.j0]
    by_cases h2 : (s.size : Int) > 40
    · refine ⟨false, Ev.step (f := fun _ => some false) (fun k => ?_) (Ev.now _), Ev.step (f := fun _ => some false) (fun k => ?_) (Ev.now _)⟩
      · rw [if_neg h1, if_pos h2]; simp [spec_l00Word.j0]
      · rw [if_pos (by omega)]
        have : decide ((s.size : Int) ≤ 40) = false := decide_eq_false (by omega)
        rw [this]; simp [impl_NameOK.j0]
    have h4 : decide ((s.size : Int) ≤ 40) = true := decide_eq_true (by omega)
    cases hl : letterB (bt s 0) with
    | false =>
      refine ⟨false, Ev.step (f := fun _ => some false) (fun k => ?_) (Ev.now _), ?_⟩
      · rw [if_neg h1, if_neg h2, if_pos (by omega), letter_spec, hl]; simp [spec_l00Word.j0]
      · cases hg : digitB (bt s 0) with
        | true =>
          refine Ev.step (f := fun _ => some false) (fun k => ?_) (Ev.now _)
          rw [if_pos (by omega), h4]; simp only [Option.bind_some, if_true]; rw [if_pos (by omega), digit_impl, hg]; simp [impl_NameOK.j0]
        | false =>
          refine Ev.step (f := fun k => impl_NameOK.l0 k s (s.size : Int) 0) (fun k => ?_) (Ev.step (f := fun _ => some false) (fun k => ?_) (Ev.now _))
          · rw [if_pos (by omega), h4]; simp only [Option.bind_some, if_true]; rw [if_pos (by omega), digit_impl, hg]; simp [impl_NameOK.j0]
          · simp only [impl_NameOK.l0]; rw [if_pos (by omega), if_pos (by omega), if_pos (by omega), letter_impl, hl, digit_impl, hg]; simp
    | true =>
      have hg := letter_not_digit hl
      obtain ⟨r, hr1, hr2⟩ := names_joint s hs (s.size - 1) 1 (by omega) (by omega) (by omega)
      refine ⟨r, Ev.step (f := fun k => spec_l00Word.l0 k s 1) (fun k => ?_) hr1, Ev.step (f := fun k => impl_NameOK.l0 k s (s.size : Int) 0) (fun k => ?_) (Ev.step (f := fun k => impl_NameOK.l0 k s (s.size : Int) 1) (fun k => ?_) hr2)⟩
      · rw [if_neg h1, if_neg h2, if_pos (by omega), letter_spec, hl]; simp [spec_l00Word.j0]
      · rw [if_pos (by omega), h4]; simp only [Option.bind_some, if_true]; rw [if_pos (by omega), digit_impl, hg]; simp [impl_NameOK.j0]
      · simp only [impl_NameOK.l0]; rw [if_pos (by omega), if_pos (by omega), if_pos (by omega), letter_impl, hl]; simp [wrap64]
  obtain ⟨r, ⟨K1, h1⟩, ⟨K2, h2⟩⟩ := key
  refine ⟨max K1 K2, ?_⟩
  unfold laws_FnExactNameOK.f
  have e1 := h1 (max K1 K2) (by omega)
  have e2 := h2 (max K1 K2) (by omega)
  simp only at e1 e2
  rw [e1, e2]
  by_cases hb : (s.size : Int) > 1048576
  · rw [if_pos hb]
  · rw [if_neg hb]; simp

end Go.Proofs.Ytmandhjfdfjmoaa.Pure
