/- The pure statement of the law FnExactHashText: whatever is given, the printed function of the law comes to true. -/
import Derived.Test.YtmandhjfdfjmoaaPAllx4
import Derived.Test.YtmandhjfdfjmoaaBase
set_option linter.unusedSimpArgs false
set_option linter.unusedVariables false
namespace Go.Proofs.Ytmandhjfdfjmoaa.Pure
open Go.RowKit Go.Proofs.Ytmandhjfdfjmoaa.PAll Go.Proofs.YtmandhjfdfjmoaaW.PrintWords Go.Proofs.YtmandhjfdfjmoaaW.PrintLast Go.Proofs.YtmandhjfdfjmoaaW.PrintMore Base

theorem hex_joint (s : ByteArray) (hs : s.size ≤ 65536) (d : Nat) : ∀ (i : Int) (out : List Int), 0 ≤ i → i ≤ s.size → (s.size : Int) - i = d → (out.length : Int) ≤ 2 * i →
    ∃ r, Ev (fun k => spec_l04Hex.l0 k s out i) r ∧ Ev (fun k => impl_hexText.l0 k s out (s.size : Int) i) r := by
  induction d with
  | zero =>
    intro i out h0 h1 hd ho
    refine ⟨strOfNums out, Ev.step (f := fun _ => some (strOfNums out)) (fun k => ?_) (Ev.now _), Ev.step (f := fun _ => some (strOfNums out)) (fun k => ?_) (Ev.now _)⟩
    · simp only [spec_l04Hex.l0]; rw [if_neg (by omega)]
    · simp only [impl_hexText.l0]; rw [if_neg (by omega)]
  | succ d ih =>
    intro i out h0 h1 hd ho
    have hw : wrap64 (i + 1) = i + 1 := wrap64_id (by omega) (by omega)
    have b0 := bt_0 s i
    have b1 := bt_255 s i
    obtain ⟨r, hr1, hr2⟩ := ih (i + 1) (out ++ [bt (⟨#[48, 49, 50, 51, 52, 53, 54, 55, 56, 57, 97, 98, 99, 100, 101, 102]⟩ : ByteArray) (bt s i / 16), bt (⟨#[48, 49, 50, 51, 52, 53, 54, 55, 56, 57, 97, 98, 99, 100, 101, 102]⟩ : ByteArray) (bt s i % 16)]) (by omega) (by omega) (by omega) (by simp; omega)
    have c1 : (0 : Int) ≤ bt s i / 16 := by omega
    have c2 : bt s i / 16 < 16 := by omega
    have c3 : (0 : Int) ≤ bt s i % 16 := by omega
    have c4 : bt s i % 16 < 16 := by omega
    have c5 : out.length + 2 < 140737488355328 := by omega
    refine ⟨r, Ev.step (f := fun k => spec_l04Hex.l0 k s _ (i + 1)) (fun k => ?_) hr1, Ev.step (f := fun k => impl_hexText.l0 k s _ (s.size : Int) (i + 1)) (fun k => ?_) hr2⟩
    · simp only [spec_l04Hex.l0, nib_hi, nib_lo, hw]
      rw [if_pos (by omega), if_pos h0, if_pos c1, if_pos c2, if_pos c3, if_pos c4]
      simp only [Option.bind_some, List.length_cons, List.length_nil]
      rw [if_pos c5]
    · simp only [impl_hexText.l0, nib_hi, nib_lo, hw]
      rw [if_pos (by omega), if_pos h0, if_pos (by omega), if_pos c1, if_pos c2, if_pos c3, if_pos c4]
      simp only [Option.bind_some, List.length_cons, List.length_nil]
      rw [if_pos c5]
theorem FnExactHashText : laws_FnExactHashText.Pure := by
  intro s hs
  by_cases h1 : (s.size : Int) > 65536
  · refine ⟨0, ?_⟩
    unfold laws_FnExactHashText.f spec_HashText.f impl_HashText.f
    rw [if_pos h1, if_pos h1]; simp
  · obtain ⟨r, hr1, hr2⟩ := hex_joint s (by omega) s.size 0 [] (by omega) (by omega) (by omega) (by simp)
    obtain ⟨k, e1, e2⟩ := two_ev hr1 hr2
    refine ⟨k, ?_⟩
    unfold laws_FnExactHashText.f spec_HashText.f impl_HashText.f spec_l04Hex.f impl_hexText.f impl_hashOK.f
    rw [e1, e2, if_neg (by omega), if_neg h1, if_neg h1]
    by_cases h2 : (s.size : Int) = 32
    · rw [if_pos h2]; simp [h2]
    · rw [if_neg h2]; simp [h2]

end Go.Proofs.Ytmandhjfdfjmoaa.Pure
