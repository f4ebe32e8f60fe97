/- The pure statement of the law FnExactCodeOf: whatever is given, the printed function of the law comes to true. -/
import Derived.Test.YtmandhjfdfjmoaaPFnExactCodeOfx1
import Derived.Test.YtmandhjfdfjmoaaBase
set_option linter.unusedSimpArgs false
set_option linter.unusedVariables false
namespace Go.Proofs.Ytmandhjfdfjmoaa.Pure
open Go.RowKit Go.Proofs.Ytmandhjfdfjmoaa.PFnExactCodeOf Go.Proofs.YtmandhjfdfjmoaaW.PrintWords Go.Proofs.YtmandhjfdfjmoaaW.PrintLast Go.Proofs.YtmandhjfdfjmoaaW.PrintMore Base

theorem words_spec2 (a : Int) : spec_CodeWord.f a = (impl_codeWords.f).bind fun y101 => (if a < 0 then (some (⟨#[]⟩ : ByteArray)) else (if a ≥ (y101.length : Int) then (some (⟨#[]⟩ : ByteArray)) else (if 0 ≤ a then (if a < (y101.length : Int) then (some (rdOf ByteArray.empty y101 a)) else (none)) else (none)))) := rfl
theorem codes_joint (s : ByteArray) (L : List ByteArray) (hL : impl_codeWords.f = some L) (hlen : L.length = 20) (d : Nat) : ∀ i : Int, 0 ≤ i → i ≤ 20 → 20 - i = d →
    ∃ r, Ev (fun k => spec_CodeOf.l0 k s i) r ∧ Ev (fun k => slices_Index_string_string.l0 k L s (L.length : Int) i) r := by
  induction d with
  | zero =>
    intro i h0 h1 hd
    refine ⟨-1, Ev.step (f := fun _ => some (-1)) (fun k => ?_) (Ev.now _), Ev.step (f := fun _ => some (-1)) (fun k => ?_) (Ev.now _)⟩
    · simp only [spec_CodeOf.l0]; rw [if_neg (by omega)]
    · simp only [slices_Index_string_string.l0]; rw [if_neg (by omega)]
  | succ d ih =>
    intro i h0 h1 hd
    obtain ⟨r, hr1, hr2⟩ := ih (i + 1) (by omega) (by omega) (by omega)
    have hw : wrap64 (i + 1) = i + 1 := wrap64_id (by omega) (by omega)
    have hs : spec_CodeWord.f i = some (rdOf ByteArray.empty L i) := by
      rw [words_spec2, hL]; simp only [Option.bind_some]
      rw [if_neg (by omega), if_neg (by omega), if_pos h0, if_pos (by omega)]
    by_cases he : (rdOf ByteArray.empty L i).toList = s.toList
    · refine ⟨i, Ev.step (f := fun _ => some i) (fun k => ?_) (Ev.now _), Ev.step (f := fun _ => some i) (fun k => ?_) (Ev.now _)⟩
      · simp only [spec_CodeOf.l0]; rw [if_pos (by omega), hs]; simp only [Option.bind_some]; rw [if_pos he]
      · simp only [slices_Index_string_string.l0]; rw [if_pos (by omega), if_pos h0, if_pos (by omega), if_pos he.symm]
    · refine ⟨r, Ev.step (f := fun k => spec_CodeOf.l0 k s (i + 1)) (fun k => ?_) hr1, Ev.step (f := fun k => slices_Index_string_string.l0 k L s (L.length : Int) (i + 1)) (fun k => ?_) hr2⟩
      · simp only [spec_CodeOf.l0]; rw [if_pos (by omega), hs]; simp only [Option.bind_some]; rw [if_neg he, hw]
      · simp only [slices_Index_string_string.l0]; rw [if_pos (by omega), if_pos h0, if_pos (by omega), if_neg (fun h => he h.symm), hw]
theorem FnExactCodeOf : laws_FnExactCodeOf.Pure := by
  intro s hs
  obtain ⟨L, hL, hlen⟩ : ∃ L, impl_codeWords.f = some L ∧ L.length = 20 := ⟨_, rfl, rfl⟩
  obtain ⟨r, ⟨K1, h1⟩, ⟨K2, h2⟩⟩ := codes_joint s L hL hlen 20 0 (by omega) (by omega) (by omega)
  refine ⟨max K1 K2, ?_⟩
  have e1 := h1 (max K1 K2) (by omega)
  have e2 := h2 (max K1 K2) (by omega)
  simp only at e1 e2
  unfold laws_FnExactCodeOf.f spec_CodeOf.f impl_CodeOf.f slices_Index_string_string.f
  rw [e1, hL]; simp only [Option.bind_some]; rw [e2]
  by_cases hb : (s.size : Int) > 1048576
  · rw [if_pos hb]
  · rw [if_neg hb]; simp

end Go.Proofs.Ytmandhjfdfjmoaa.Pure
