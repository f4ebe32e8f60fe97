/- Check32: the program's sum over the bytes, in words of 32 bits, is the reference's in whole numbers; both bound below 2^32. -/
import Derived.Test.YtohlocmdpdghiaaPAllx1
import Derived.Test.YtohlocmdpdghiaaBase
import Derived.Laws.BitsAllLaws
import Derived.Laws.BitsLemmas
set_option linter.unusedSimpArgs false
set_option linter.unusedVariables false
namespace Go.Proofs.Ytohlocmdpdghiaa.Pure
open Go.RowKit Go.Proofs.Ytohlocmdpdghiaa.PAll Go.Proofs.YtohlocmdpdghiaaW.PrintWords Go.Proofs.YtohlocmdpdghiaaW.PrintLast Go.Proofs.YtohlocmdpdghiaaW.PrintMore Base

/-! ### a row copied, two rows compared -/
theorem rd_nat (l : List Int) (i : Nat) : rd l (i : Int) = l.getD i 0 := by simp [rd]
theorem toByteS_l0 (l : List Int) (hl : l.length ≤ 1048576) (d : Nat) : ∀ (i : Nat) (x : List Int), i + d = l.length → x.length = l.length → (∀ j, j < i → x[j]? = l[j]?) → Ev (fun k => laws_toByteS.l0 k l x (i : Int)) l := by
  induction d with
  | zero =>
    intro i x hi hx hj
    have hxl : x = l := by
      apply List.ext_getElem?
      intro j
      by_cases h : j < i
      · exact hj j h
      · rw [List.getElem?_eq_none (by omega), List.getElem?_eq_none (by omega)]
    subst hxl
    refine Ev.step (f := fun _ => some x) (fun k => ?_) (Ev.now _)
    simp only [laws_toByteS.l0]; rw [if_neg (by omega)]
  | succ d ih =>
    intro i x hi hx hj
    have hw : wrap64 ((i : Int) + 1) = ((i + 1 : Nat) : Int) := by rw [wrap64_id (by omega) (by omega)]; omega
    refine Ev.step (f := fun k => laws_toByteS.l0 k l (x.set i (rd l i)) ((i + 1 : Nat) : Int)) (fun k => ?_) (ih (i + 1) _ (by omega) (by simpa using hx) ?_)
    · simp only [laws_toByteS.l0, hw]; rw [if_pos (by omega), if_pos (by omega), if_pos (by omega)]; rfl
    · intro j hji
      by_cases h : j = i
      · subst h
        rw [List.getElem?_set_self (by omega), rd_nat, List.getD_eq_getElem?_getD, List.getElem?_eq_getElem (by omega)]; rfl
      · rw [List.getElem?_set_ne (by omega)]; exact hj j (by omega)
theorem toByteS_ev (l : List Int) (hl : l.length ≤ 1048576) : Ev (fun k => laws_toByteS.f k l) l := by
  refine Ev.congr (f := fun k => laws_toByteS.l0 k l (List.replicate l.length 0) ((0 : Nat) : Int)) (fun k => ?_) (toByteS_l0 l hl l.length 0 _ (by omega) (by simp) (fun j hj => by omega))
  unfold laws_toByteS.f
  rw [if_pos (by omega), if_pos (by omega)]; rfl
theorem eqByteS_l0 (l : List Int) (hl : l.length ≤ 1048576) (d : Nat) : ∀ (i : Nat), i + d = l.length → Ev (fun k => laws_eqByteS.l0 k l l (i : Int)) true := by
  induction d with
  | zero =>
    intro i hi
    refine Ev.step (f := fun _ => some true) (fun k => ?_) (Ev.now _)
    simp only [laws_eqByteS.l0]; rw [if_neg (by omega)]
  | succ d ih =>
    intro i hi
    have hw : wrap64 ((i : Int) + 1) = ((i + 1 : Nat) : Int) := by rw [wrap64_id (by omega) (by omega)]; omega
    refine Ev.step (f := fun k => laws_eqByteS.l0 k l l ((i + 1 : Nat) : Int)) (fun k => ?_) (ih (i + 1) (by omega))
    simp only [laws_eqByteS.l0, hw]; rw [if_pos (by omega), if_pos (by omega), if_pos (by omega), if_pos trivial]
theorem eqByteS_ev (l : List Int) (hl : l.length ≤ 1048576) : Ev (fun k => laws_eqByteS.f k l l) true := by
  refine Ev.congr (f := fun k => laws_eqByteS.l0 k l l ((0 : Nat) : Int)) (fun k => ?_) (eqByteS_l0 l hl l.length 0 (by omega))
  unfold laws_eqByteS.f
  rw [if_pos rfl]; rfl

-- SAYS: Check32: the program's sum over the bytes, in words of 32 bits, is the reference's in whole numbers; both bound below 2^32.
-- USES: Wire
-- IMPORTS: Derived.Laws.BitsAllLaws Derived.Laws.BitsLemmas
theorem ofInt_i64 (a : Nat) (ha : a < 4294967296) : (BitVec.ofInt 64 (a : Int)).toNat = a := by
  rw [BitVec.ofInt_natCast, BitVec.toNat_ofNat]; exact Nat.mod_eq_of_lt (by omega)
theorem xor_i64 (a b : Nat) (ha : a < 4294967296) (hb : b < 4294967296) : Go.bits .xor .i64 (a : Int) (b : Int) = ((a ^^^ b : Nat) : Int) := by
  have h : a ^^^ b < 2 ^ 32 := Nat.xor_lt_two_pow (n := 32) (by omega) (by omega)
  show IntKind.i64.wrap ((BitVec.ofInt 64 (a : Int) ^^^ BitVec.ofInt 64 (b : Int)).toNat : Int) = _
  rw [BitVec.toNat_xor, ofInt_i64 a ha, ofInt_i64 b hb, IntKind.wrap_i64]
  omega
theorem xor_u32 (a b : Nat) (ha : a < 4294967296) (hb : b < 4294967296) : Go.bits .xor .u32 (a : Int) (b : Int) = ((a ^^^ b : Nat) : Int) := u32_xor_nat a b ha hb
theorem xor_lt (a b : Nat) (ha : a < 4294967296) (hb : b < 4294967296) : a ^^^ b < 4294967296 := Nat.xor_lt_two_pow (n := 32) (by omega) (by omega)

theorem check32_l1 (l : List Int) (i : Int) (hnext : ∀ c : Nat, c < 4294967296 → ∃ r, Ev (fun k => spec_l04Check.l0 k l (c : Int) (wrap64 (i + 1))) r ∧ Ev (fun k => impl_Check32.l0 k (c : Int) l (l.length : Int) (wrap64 (i + 1))) r) (d : Nat) :
    ∀ (j c : Nat), j + d = 8 → c < 4294967296 → ∃ r, Ev (fun k => spec_l04Check.l1 k l (c : Int) i (j : Int)) r ∧ Ev (fun k => impl_Check32.l1 k (c : Int) l (l.length : Int) i (j : Int)) r := by
  induction d with
  | zero =>
    intro j c hj hc
    obtain ⟨r, h1, h2⟩ := hnext c hc
    refine ⟨r, Ev.step (fun k => ?_) h1, Ev.step (fun k => ?_) h2⟩
    · simp only [spec_l04Check.l1]; rw [if_neg (by omega)]
    · simp only [impl_Check32.l1]; rw [if_neg (by omega)]
  | succ d ih =>
    intro j c hj hc
    have hw : wrap64 ((j : Int) + 1) = ((j + 1 : Nat) : Int) := by rw [wrap64_id (by omega) (by omega)]; omega
    have hand : Go.bits .and .u32 (c : Int) 1 = ((c % 2 : Nat) : Int) := by
      have := u32_and_nat c 1 hc (by omega)
      rw [Nat.and_one_is_mod] at this; exact this
    have hdv : (c : Int) / 2 = ((c / 2 : Nat) : Int) := by omega
    have hwd : wrap64 (Int.tdiv (c : Int) 2) = ((c / 2 : Nat) : Int) := by
      rw [Int.tdiv_eq_ediv_of_nonneg (by omega), wrap64_id (by omega) (by omega)]; omega
    have htm : Int.tmod (c : Int) 2 = ((c % 2 : Nat) : Int) := by rw [Int.tmod_eq_emod_of_nonneg (by omega)]; omega
    by_cases hodd : c % 2 = 1
    · obtain ⟨r, h1, h2⟩ := ih (j + 1) (c / 2 ^^^ 3988292384) (by omega) (xor_lt _ _ (by omega) (by omega))
      refine ⟨r, Ev.step (fun k => ?_) h1, Ev.step (fun k => ?_) h2⟩
      · simp only [spec_l04Check.l1, htm, hwd, hw]
        rw [if_pos (by omega), if_pos (by omega)]
        rw [show (3988292384 : Int) = ((3988292384 : Nat) : Int) from rfl, xor_i64 _ _ (by omega) (by omega)]
      · simp only [impl_Check32.l1, hand, hw, hdv, hodd]
        rw [if_pos (by omega)]
        rw [show (3988292384 * ((1 : Nat) : Int)) % 4294967296 = ((3988292384 : Nat) : Int) from rfl, xor_u32 _ _ (by omega) (by omega)]
    · have h0 : c % 2 = 0 := by omega
      obtain ⟨r, h1, h2⟩ := ih (j + 1) (c / 2) (by omega) (by omega)
      refine ⟨r, Ev.step (fun k => ?_) h1, Ev.step (fun k => ?_) h2⟩
      · simp only [spec_l04Check.l1, htm, hwd, hw]
        rw [if_pos (by omega), if_neg (by omega)]
      · simp only [impl_Check32.l1, hand, hw, hdv, h0]
        rw [if_pos (by omega)]
        rw [show (3988292384 * ((0 : Nat) : Int)) % 4294967296 = ((0 : Nat) : Int) from rfl, xor_u32 _ _ (by omega) (by omega), Nat.xor_zero]

theorem check32_l0 (l : List Int) (hl : l.length ≤ 65536) (hb : ∀ x ∈ l, (Lit.int .u8 x).wf = true) (d : Nat) :
    ∀ (i c : Nat), i + d = l.length → c < 4294967296 → ∃ r, Ev (fun k => spec_l04Check.l0 k l (c : Int) (i : Int)) r ∧ Ev (fun k => impl_Check32.l0 k (c : Int) l (l.length : Int) (i : Int)) r := by
  induction d with
  | zero =>
    intro i c hi hc
    refine ⟨((c ^^^ 4294967295 : Nat) : Int), Ev.step (f := fun _ => some ((c ^^^ 4294967295 : Nat) : Int)) (fun k => ?_) (Ev.now _), Ev.step (f := fun _ => some ((c ^^^ 4294967295 : Nat) : Int)) (fun k => ?_) (Ev.now _)⟩
    · simp only [spec_l04Check.l0]; rw [if_neg (by omega)]
      rw [show (4294967295 : Int) = ((4294967295 : Nat) : Int) from rfl, xor_i64 _ _ hc (by omega)]
    · simp only [impl_Check32.l0]; rw [if_neg (by omega)]
      rw [show (4294967295 : Int) = ((4294967295 : Nat) : Int) from rfl, xor_u32 _ _ (by omega) hc, Nat.xor_comm]
      have := xor_lt c 4294967295 hc (by omega)
      rw [wrap64_id (by omega) (by omega)]
  | succ d ih =>
    intro i c hi hc
    have hw : wrap64 ((i : Int) + 1) = ((i + 1 : Nat) : Int) := by rw [wrap64_id (by omega) (by omega)]; omega
    have hx := wf_u8 (hb _ (List.getElem_mem (show i < l.length by omega)))
    have hr : rd l (i : Int) = ((l[i].toNat : Nat) : Int) := by
      rw [rd_nat, List.getD_eq_getElem?_getD, List.getElem?_eq_getElem (by omega)]
      simp only [Option.getD_some]; omega
    have hn : l[i].toNat < 256 := by omega
    obtain ⟨r, h1, h2⟩ := check32_l1 l (i : Int) (fun c hc => by rw [hw]; exact ih (i + 1) c (by omega) hc) 8 0 (c ^^^ l[i].toNat) (by omega) (xor_lt _ _ hc (by omega))
    refine ⟨r, Ev.step (fun k => ?_) h1, Ev.step (fun k => ?_) h2⟩
    · simp only [spec_l04Check.l0, hr]
      rw [if_pos (by omega), if_pos (by omega), wrap64_id (by omega) (by omega), xor_i64 _ _ hc (by omega)]; rfl
    · simp only [impl_Check32.l0, hr]
      rw [if_pos (by omega), if_pos (by omega), if_pos (by omega), show ((l[i].toNat : Nat) : Int) % 4294967296 = ((l[i].toNat : Nat) : Int) by omega, xor_u32 _ _ hc (by omega)]; rfl

theorem FnExactCheck32 : laws_FnExactCheck32.Pure := by
  intro l _ _ hb
  apply Ev.rounds
  by_cases h0 : (l.length : Int) > 1048576
  · refine Ev.congr (fun k => ?_) (Ev.now true)
    unfold laws_FnExactCheck32.f; rw [if_pos h0]
  · have hT := toByteS_ev l (by omega)
    have hE := eqByteS_ev l (by omega)
    have key : ∃ r, Ev (fun k => spec_Check32.f k l) r ∧ Ev (fun k => impl_Check32.f k l) r := by
      by_cases h1 : (l.length : Int) > 65536
      · exact ⟨0, Ev.congr (fun k => by unfold spec_Check32.f; rw [if_pos h1]) (Ev.now _), Ev.congr (fun k => by unfold impl_Check32.f; rw [if_pos h1]) (Ev.now _)⟩
      · obtain ⟨r, h2, h3⟩ := check32_l0 l (by omega) hb l.length 0 4294967295 (by omega) (by omega)
        refine ⟨r, Ev.congr (fun k => ?_) h2, Ev.congr (fun k => ?_) h3⟩
        · unfold spec_Check32.f spec_l04Check.f; rw [if_neg h1]
          simp only [Option.bind_some, Option.bind_fun_some]; rfl
        · unfold impl_Check32.f; rw [if_neg h1]; rfl
    obtain ⟨r, hS, hI⟩ := key
    refine Ev.congr (fun k => by unfold laws_FnExactCheck32.f; rw [if_neg h0]) ?_
    refine Ev.bind hT (Ev.bind hS (Ev.bind hT (Ev.bind hI ?_)))
    simp only [if_true]
    refine Ev.bind hT (Ev.bind hE (Ev.now _))

end Go.Proofs.Ytohlocmdpdghiaa.Pure
