/- Check16: the sum of words of 16 bits is one number to both. -/
import Derived.Test.YthfhflgiblmooaaPC16x1
import Derived.Test.YthfhflgiblmooaaBase
set_option linter.unusedSimpArgs false
set_option linter.unusedVariables false
namespace Go.Proofs.Ythfhflgiblmooaa.Pure
open Go.RowKit Go.Proofs.Ythfhflgiblmooaa.PC16 Go.Proofs.YthfhflgiblmooaaW.PrintWords Go.Proofs.YthfhflgiblmooaaW.PrintLast Go.Proofs.YthfhflgiblmooaaW.PrintMore Base

/-! ### rows of bytes and the strings of them -/
def Bytes (l : List Int) : Prop := ∀ x ∈ l, 0 ≤ x ∧ x < 256
theorem bytes_wf {l : List Int} (h : ∀ x ∈ l, (Lit.int .u8 x).wf = true) : Bytes l := fun x hx => wf_u8 (h x hx)
theorem bytes_take {l : List Int} (h : Bytes l) (n : Nat) : Bytes (l.take n) := fun x hx => h x (List.mem_of_mem_take hx)
theorem bytes_drop {l : List Int} (h : Bytes l) (n : Nat) : Bytes (l.drop n) := fun x hx => h x (List.mem_of_mem_drop hx)
theorem rd_nat (l : List Int) (i : Nat) : rd l (i : Int) = l.getD i 0 := by simp [rd]
theorem rd_at (l : List Int) (i : Nat) (h : i < l.length) : rd l (i : Int) = l[i] := by
  rw [rd_nat, List.getD_eq_getElem?_getD, List.getElem?_eq_getElem h]; rfl
theorem rd_byte {l : List Int} (h : Bytes l) (i : Nat) : 0 ≤ rd l (i : Int) ∧ rd l (i : Int) < 256 := by
  by_cases hi : i < l.length
  · rw [rd_at l i hi]; exact h _ (List.getElem_mem hi)
  · rw [rd_nat, List.getD_eq_getElem?_getD, List.getElem?_eq_none (by omega)]; simp
theorem str_bt {l : List Int} (h : Bytes l) (i : Nat) : bt (strOfNums l) (i : Int) = rd l (i : Int) := by
  rw [bt_nat, strOfNums_data, rd_nat, List.getD_eq_getElem?_getD, List.getD_eq_getElem?_getD, List.getElem?_map]
  by_cases hi : i < l.length
  · rw [List.getElem?_eq_getElem hi]
    simp only [Option.map_some, Option.getD_some]
    have := h _ (List.getElem_mem hi)
    rw [UInt8.toNat_ofNat']; omega
  · rw [List.getElem?_eq_none (by omega)]; rfl
theorem str_cut (l : List Int) (a b : Nat) : (strOfNums l).extract a b = strOfNums ((l.take b).drop a) := by
  apply toList_inj
  rw [toList_data, toList_data, strOfNums_data, ByteArray.data_extract, Array.toList_extract, List.extract_eq_take_drop, strOfNums_data, List.map_drop, List.map_take, List.drop_take]
theorem str_size (l : List Int) : (strOfNums l).size = l.length := strOfNums_size l

/-! ### the number of a row of bytes, high byte first -/
def num (l : List Int) : Int := l.foldl (fun n c => n * 256 + c) 0
theorem num_snoc (l : List Int) (c : Int) : num (l ++ [c]) = num l * 256 + c := by simp [num]
theorem num_take (l : List Int) (i : Nat) (h : i < l.length) : num (l.take (i + 1)) = num (l.take i) * 256 + l[i] := by
  rw [List.take_succ_eq_append_getElem h, num_snoc]
theorem num_0 {l : List Int} (h : Bytes l) : ∀ i, i ≤ l.length → 0 ≤ num (l.take i) ∧ num (l.take i) < 256 ^ i := by
  intro i
  induction i with
  | zero => intro _; rw [List.take_zero]; exact ⟨by decide, by decide⟩
  | succ i ih =>
    intro hi
    have h1 := ih (by omega)
    have h2 := h _ (List.getElem_mem (show i < l.length by omega))
    rw [num_take l i (by omega), Int.pow_succ]
    omega
theorem num_6 {l : List Int} (h : Bytes l) (i : Nat) (hi : i ≤ l.length) (h7 : i ≤ 6) : 0 ≤ num (l.take i) ∧ num (l.take i) < 281474976710656 := by
  have h1 := num_0 h i hi
  rcases (show i = 0 ∨ i = 1 ∨ i = 2 ∨ i = 3 ∨ i = 4 ∨ i = 5 ∨ i = 6 by omega) with e | e | e | e | e | e | e <;> rw [e] at h1 ⊢ <;> omega
theorem num_lt {l : List Int} (h : Bytes l) (n : Nat) (hn : l.length = n) : 0 ≤ num l ∧ num l < 256 ^ n := by
  have := num_0 h l.length (Nat.le_refl _)
  rw [List.take_length] at this; rw [hn] at this; exact this

/-! ### a row copied, two rows compared -/
theorem toByteS_l0 (l : List Int) (hl : l.length ≤ 1048576) (d : Nat) : ∀ (i : Nat) (x : List Int), i + d = l.length → x.length = l.length → (∀ j, j < i → x[j]? = l[j]?) → Ev (fun k => laws_toByteS.l0 k l x (i : Int)) l := by
  induction d with
  | zero =>
    intro i x hi hx hj
    have hxl : x = l := by
      apply List.ext_getElem?
      intro j
      by_cases h : j < i
      · exact hj j h
      · rw [List.getElem?_eq_none (by omega), List.getElem?_eq_none (by omega)]
    subst hxl
    refine Ev.step (f := fun _ => some x) (fun k => ?_) (Ev.now _)
    simp only [laws_toByteS.l0]; rw [if_neg (by omega)]
  | succ d ih =>
    intro i x hi hx hj
    have hw : wrap64 ((i : Int) + 1) = ((i + 1 : Nat) : Int) := by rw [wrap64_id (by omega) (by omega)]; omega
    refine Ev.step (f := fun k => laws_toByteS.l0 k l (x.set i (rd l i)) ((i + 1 : Nat) : Int)) (fun k => ?_) (ih (i + 1) _ (by omega) (by simpa using hx) ?_)
    · simp only [laws_toByteS.l0, hw]; rw [if_pos (by omega), if_pos (by omega), if_pos (by omega)]; rfl
    · intro j hji
      by_cases h : j = i
      · subst h
        rw [List.getElem?_set_self (by omega), rd_nat, List.getD_eq_getElem?_getD, List.getElem?_eq_getElem (by omega)]; rfl
      · rw [List.getElem?_set_ne (by omega)]; exact hj j (by omega)
theorem toByteS_ev (l : List Int) (hl : l.length ≤ 1048576) : Ev (fun k => laws_toByteS.f k l) l := by
  refine Ev.congr (f := fun k => laws_toByteS.l0 k l (List.replicate l.length 0) ((0 : Nat) : Int)) (fun k => ?_) (toByteS_l0 l hl l.length 0 _ (by omega) (by simp) (fun j hj => by omega))
  unfold laws_toByteS.f
  rw [if_pos (by omega), if_pos (by omega)]; rfl
theorem eqByteS_l0 (l : List Int) (hl : l.length ≤ 1048576) (d : Nat) : ∀ (i : Nat), i + d = l.length → Ev (fun k => laws_eqByteS.l0 k l l (i : Int)) true := by
  induction d with
  | zero =>
    intro i hi
    refine Ev.step (f := fun _ => some true) (fun k => ?_) (Ev.now _)
    simp only [laws_eqByteS.l0]; rw [if_neg (by omega)]
  | succ d ih =>
    intro i hi
    have hw : wrap64 ((i : Int) + 1) = ((i + 1 : Nat) : Int) := by rw [wrap64_id (by omega) (by omega)]; omega
    refine Ev.step (f := fun k => laws_eqByteS.l0 k l l ((i + 1 : Nat) : Int)) (fun k => ?_) (ih (i + 1) (by omega))
    simp only [laws_eqByteS.l0, hw]; rw [if_pos (by omega), if_pos (by omega), if_pos (by omega), if_pos trivial]
theorem eqByteS_ev (l : List Int) (hl : l.length ≤ 1048576) : Ev (fun k => laws_eqByteS.f k l l) true := by
  refine Ev.congr (f := fun k => laws_eqByteS.l0 k l l ((0 : Nat) : Int)) (fun k => ?_) (eqByteS_l0 l hl l.length 0 (by omega))
  unfold laws_eqByteS.f
  rw [if_pos rfl]; rfl

/-! ### the sum of words of 16 bits: one number to both -/
theorem sum_l1 (n : Nat) : ∀ c : Int, c.toNat ≤ n → 0 ≤ c → c < 4611686018427387904 → ∃ r, 0 ≤ r ∧ r ≤ 65535 ∧ Ev (fun k => spec_l01Sum16.l1 k c) r ∧ Ev (fun k => impl_sum16.l1 k c) r := by
  induction n with
  | zero =>
    intro c h1 h2 h3
    have : c = 0 := by omega
    subst this
    refine ⟨65535, by omega, by omega, Ev.step (fun k => ?_) (Ev.now _), Ev.step (fun k => ?_) (Ev.now _)⟩
    · simp only [spec_l01Sum16.l1]; rw [if_neg (by omega), wrap64_id (by omega) (by omega)]; rfl
    · simp only [impl_sum16.l1]; rw [if_neg (by omega), wrap64_id (by omega) (by omega)]; rfl
  | succ n ih =>
    intro c h1 h2 h3
    by_cases h : c > 65535
    · have e : wrap64 (Int.tmod c 65536 + wrap64 (Int.tdiv c 65536)) = c % 65536 + c / 65536 := by
        rw [Int.tmod_eq_emod_of_nonneg h2, Int.tdiv_eq_ediv_of_nonneg h2, wrap64_id (x := c / 65536) (by omega) (by omega), wrap64_id (by omega) (by omega)]
      obtain ⟨r, r0, r1, hS, hI⟩ := ih (c % 65536 + c / 65536) (by omega) (by omega) (by omega)
      refine ⟨r, r0, r1, Ev.step (fun k => ?_) hS, Ev.step (fun k => ?_) hI⟩
      · simp only [spec_l01Sum16.l1]; rw [if_pos h, e]
      · simp only [impl_sum16.l1]; rw [if_pos (by omega), e]
    · refine ⟨65535 - c, by omega, by omega, Ev.step (fun k => ?_) (Ev.now _), Ev.step (fun k => ?_) (Ev.now _)⟩
      · simp only [spec_l01Sum16.l1]; rw [if_neg h, wrap64_id (by omega) (by omega)]
      · simp only [impl_sum16.l1]; rw [if_neg (by omega), wrap64_id (by omega) (by omega)]
theorem sum_l0 (l : List Int) (hB : Bytes l) (hl : l.length ≤ 1048576) (d : Nat) : ∀ (i : Nat) (c : Int), i + d = l.length → 0 ≤ c → c ≤ 65280 * i → ∃ r, 0 ≤ r ∧ r ≤ 65535 ∧ Ev (fun k => spec_l01Sum16.l0 k (strOfNums l) c (i : Int)) r ∧ Ev (fun k => impl_sum16.l0 k c l (l.length : Int) (i : Int)) r := by
  induction d with
  | zero =>
    intro i c hi h0 h1
    obtain ⟨r, r0, r1, hS, hI⟩ := sum_l1 c.toNat c (Nat.le_refl _) h0 (by omega)
    refine ⟨r, r0, r1, Ev.step (fun k => ?_) hS, Ev.step (fun k => ?_) hI⟩
    · simp only [spec_l01Sum16.l0]; rw [if_neg (by rw [str_size]; omega)]
    · simp only [impl_sum16.l0]; rw [if_neg (by omega)]
  | succ d ih =>
    intro i c hi h0 h1
    have hw : wrap64 ((i : Int) + 1) = ((i + 1 : Nat) : Int) := by rw [wrap64_id (by omega) (by omega)]; omega
    have hb := rd_byte hB i
    have hm : Int.tmod (i : Int) 2 = ((i % 2 : Nat) : Int) := by rw [Int.tmod_eq_emod_of_nonneg (by omega)]; omega
    have w1 : wrap64 (rd l (i : Int)) = rd l i := wrap64_id (by omega) (by omega)
    by_cases he : i % 2 = 0
    · obtain ⟨r, r0, r1, hS, hI⟩ := ih (i + 1) (c + 256 * rd l i) (by omega) (by omega) (by omega)
      refine ⟨r, r0, r1, Ev.step (fun k => ?_) hS, Ev.step (fun k => ?_) hI⟩
      · simp only [spec_l01Sum16.l0, hw, hm, str_bt hB, w1]
        rw [if_pos (by rw [str_size]; omega), if_pos (by omega), if_pos (by omega), wrap64_id (x := 256 * rd l i) (by omega) (by omega), wrap64_id (by omega) (by omega)]
      · simp only [impl_sum16.l0, hw, hm, w1]
        rw [if_pos (by omega), if_pos (by omega), if_pos (by omega), if_pos (by omega), wrap64_id (x := rd l i * 256) (by omega) (by omega), wrap64_id (by omega) (by omega), Int.mul_comm]
    · obtain ⟨r, r0, r1, hS, hI⟩ := ih (i + 1) (c + rd l i) (by omega) (by omega) (by omega)
      refine ⟨r, r0, r1, Ev.step (fun k => ?_) hS, Ev.step (fun k => ?_) hI⟩
      · simp only [spec_l01Sum16.l0, hw, hm, str_bt hB, w1]
        rw [if_pos (by rw [str_size]; omega), if_neg (by omega), if_pos (by omega), wrap64_id (by omega) (by omega)]
      · simp only [impl_sum16.l0, hw, hm, w1]
        rw [if_pos (by omega), if_pos (by omega), if_pos (by omega), if_neg (by omega), wrap64_id (by omega) (by omega)]
theorem sum_ev (l : List Int) (hB : Bytes l) (hl : l.length ≤ 1048576) : ∃ r, 0 ≤ r ∧ r ≤ 65535 ∧ Ev (fun k => spec_l01Sum16.f k (strOfNums l)) r ∧ Ev (fun k => impl_sum16.f k l) r :=
  sum_l0 l hB hl l.length 0 0 (by omega) (by omega) (by omega)

-- SAYS: Check16: the sum of words of 16 bits is one number to both.
-- USES: Bytes Wire Sum
theorem FnExactCheck16 : laws_FnExactCheck16.Pure := by
  intro l _ _ hb
  apply Ev.rounds
  by_cases h0 : (l.length : Int) > 1048576
  · refine Ev.congr (fun k => ?_) (Ev.now true)
    unfold laws_FnExactCheck16.f; rw [if_pos h0]
  · have hT := toByteS_ev l (by omega)
    have hE := eqByteS_ev l (by omega)
    have hB := bytes_wf hb
    have key : ∃ r, Ev (fun k => spec_Check16.f k l) r ∧ Ev (fun k => impl_Check16.f k l) r := by
      by_cases h1 : (l.length : Int) > 65536
      · exact ⟨0, Ev.congr (fun k => by unfold spec_Check16.f; rw [if_pos h1]) (Ev.now _), Ev.congr (fun k => by unfold impl_Check16.f; rw [if_pos h1]) (Ev.now _)⟩
      · obtain ⟨r, _, _, hS, hI⟩ := sum_ev l hB (by omega)
        exact ⟨r, Ev.congr (fun k => by unfold spec_Check16.f; rw [if_neg h1]) (Ev.bind hS (Ev.now _)), Ev.congr (fun k => by unfold impl_Check16.f; rw [if_neg h1]) (Ev.bind hI (Ev.now _))⟩
    obtain ⟨r, hS, hI⟩ := key
    refine Ev.congr (fun k => by unfold laws_FnExactCheck16.f; rw [if_neg h0]) ?_
    refine Ev.bind hT (Ev.bind hS (Ev.bind hT (Ev.bind hI ?_)))
    simp only [if_true]
    refine Ev.bind hT (Ev.bind hE (Ev.now _))

end Go.Proofs.Ythfhflgiblmooaa.Pure
