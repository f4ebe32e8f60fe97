/- HashBits: eight bits a byte, the highest first, whether they are written into a builder or put behind a row. -/
import Derived.Test.YtohlocmdpdghiaaPHbx1
import Derived.Test.YtohlocmdpdghiaaBase
set_option linter.unusedSimpArgs false
set_option linter.unusedVariables false
namespace Go.Proofs.Ytohlocmdpdghiaa.Pure
open Go.RowKit Go.Proofs.Ytohlocmdpdghiaa.PHb Go.Proofs.YtohlocmdpdghiaaW.PrintWords Go.Proofs.YtohlocmdpdghiaaW.PrintLast Go.Proofs.YtohlocmdpdghiaaW.PrintMore Base

-- SAYS: HashBits: eight bits a byte, the highest first, whether they are written into a builder or put behind a row.
theorem sp_l1 (s : ByteArray) (hs : s.size = 32) (i : Nat) (hi : i < 32) (r : ByteArray) (h : Ev (fun k => spec_l04Bits.l0 k s (bitsUpto s (8 * (i + 1))) ((i + 1 : Nat) : Int)) r) : ∀ q : Nat, q ≤ 8 → Ev (fun k => spec_l04Bits.l1 k s (bitsUpto s (8 * i + (8 - q))) (i : Int) ((q : Int) - 1)) r := by
  intro q
  induction q with
  | zero =>
    intro _
    have hw : wrap64 ((i : Int) + 1) = ((i + 1 : Nat) : Int) := by rw [wrap64_id (by omega) (by omega)]; omega
    rw [show 8 * i + (8 - 0) = 8 * (i + 1) by omega]
    refine Ev.step (fun k => ?_) h
    simp only [spec_l04Bits.l1, hw]; rw [if_neg (by omega)]
  | succ q ih =>
    intro hq
    have h2 := ih (by omega)
    rw [show 8 * i + (8 - q) = 8 * i + (7 - q) + 1 by omega, bitsUpto_succ s i q (by omega)] at h2
    rw [show 8 * i + (8 - (q + 1)) = 8 * i + (7 - q) by omega, show ((q + 1 : Nat) : Int) - 1 = (q : Int) by omega]
    have hw : wrap64 ((q : Int) - 1) = (q : Int) - 1 := wrap64_id (by omega) (by omega)
    have hu : IntKind.u64.wrap (q : Int) = (q : Int) := by rw [wrap_u64]; omega
    have hl : (bitsUpto s (8 * i + (7 - q))).length < 140737488355328 := by unfold bitsUpto; rw [List.length_map, List.length_range]; omega
    refine Ev.step (fun k => ?_) h2
    simp only [spec_l04Bits.l1, hw, hu]
    rw [if_pos (by omega), if_pos (by omega), if_pos (by omega), if_pos (by omega), if_pos hl]; rfl
theorem sp_l0 (s : ByteArray) (hs : s.size = 32) (d : Nat) : ∀ i : Nat, i + d = 32 → Ev (fun k => spec_l04Bits.l0 k s (bitsUpto s (8 * i)) (i : Int)) (strOfNums (bitsUpto s 256)) := by
  induction d with
  | zero =>
    intro i hi
    obtain rfl : i = 32 := by omega
    refine Ev.step (f := fun _ => some _) (fun k => ?_) (Ev.now _)
    simp only [spec_l04Bits.l0]; rw [if_neg (by omega)]
  | succ d ih =>
    intro i hi
    have h := sp_l1 s hs i (by omega) _ (ih (i + 1) (by omega)) 8 (Nat.le_refl _)
    rw [show 8 * i + (8 - 8) = 8 * i by omega, show ((8 : Nat) : Int) - 1 = 7 by omega] at h
    refine Ev.step (fun k => ?_) h
    simp only [spec_l04Bits.l0]; rw [if_pos (by omega)]
theorem FnExactHashBits : laws_FnExactHashBits.Pure := by
  intro a0 h0
  suffices h : Ev (fun k => laws_FnExactHashBits.f k a0) true by
    obtain ⟨K, hK⟩ := h; exact ⟨K, hK K (Nat.le_refl _)⟩
  have same : ∀ (x : ByteArray) (c : Int), Ev (fun k => spec_HashBits.f k a0) (x, c) → impl_HashBits.f a0 = some (x, c) → ¬ (a0.size : Int) > 1048576 → Ev (fun k => laws_FnExactHashBits.f k a0) true := fun x c hs hi hn => by
    refine Ev.congr (fun k => by unfold laws_FnExactHashBits.f; rw [if_neg hn]) ?_
    refine Ev.bind hs ?_
    exact Ev.congr (f := fun _ => some true) (fun k => by rw [hi, Option.bind_some, if_pos rfl, if_pos rfl]) (Ev.now _)
  by_cases hb : (a0.size : Int) > 1048576
  · exact Ev.congr (f := fun _ => some true) (fun k => by unfold laws_FnExactHashBits.f; rw [if_pos hb]) (Ev.now _)
  · by_cases h1 : (a0.size : Int) > 65536
    · refine same ⟨#[]⟩ 2 (Ev.congr (f := fun _ => some _) (fun k => ?_) (Ev.now _)) ?_ hb
      · unfold spec_HashBits.f; rw [if_pos h1]
      · unfold impl_HashBits.f; rw [if_pos h1]
    · by_cases h2 : (a0.size : Int) = 32
      · have h3 : a0.size = 32 := by omega
        have h := sp_l0 a0 h3 32 0 (by omega)
        refine same (strOfNums (bitsUpto a0 256)) 0 ?_ ?_ hb
        · refine Ev.congr (fun k => by unfold spec_HashBits.f; rw [if_neg h1, if_pos h2]) (Ev.bind (a := strOfNums (bitsUpto a0 256)) ?_ (Ev.now _))
          exact Ev.congr (fun k => by unfold spec_l04Bits.f; rfl) h
        · unfold impl_HashBits.f; rw [if_neg h1, if_pos h2]
      · refine same ⟨#[]⟩ 1 (Ev.congr (f := fun _ => some _) (fun k => ?_) (Ev.now _)) ?_ hb
        · unfold spec_HashBits.f; rw [if_neg h1, if_neg h2]
        · unfold impl_HashBits.f; rw [if_neg h1, if_neg h2]

end Go.Proofs.Ytohlocmdpdghiaa.Pure
