/- ReadSegment: both ask the same of a row, and of its sum with what stands ahead of it, and cut it at the same places. -/
import Derived.Test.YthfhflgiblmooaaPSgx5
import Derived.Test.YthfhflgiblmooaaBase
set_option linter.unusedSimpArgs false
set_option linter.unusedVariables false
namespace Go.Proofs.Ythfhflgiblmooaa.Pure
open Go.RowKit Go.Proofs.Ythfhflgiblmooaa.PSg Go.Proofs.YthfhflgiblmooaaW.PrintWords Go.Proofs.YthfhflgiblmooaaW.PrintLast Go.Proofs.YthfhflgiblmooaaW.PrintMore Base

/-! ### rows of bytes and the strings of them -/
def Bytes (l : List Int) : Prop := ∀ x ∈ l, 0 ≤ x ∧ x < 256
theorem bytes_wf {l : List Int} (h : ∀ x ∈ l, (Lit.int .u8 x).wf = true) : Bytes l := fun x hx => wf_u8 (h x hx)
theorem bytes_take {l : List Int} (h : Bytes l) (n : Nat) : Bytes (l.take n) := fun x hx => h x (List.mem_of_mem_take hx)
theorem bytes_drop {l : List Int} (h : Bytes l) (n : Nat) : Bytes (l.drop n) := fun x hx => h x (List.mem_of_mem_drop hx)
theorem rd_nat (l : List Int) (i : Nat) : rd l (i : Int) = l.getD i 0 := by simp [rd]
theorem rd_at (l : List Int) (i : Nat) (h : i < l.length) : rd l (i : Int) = l[i] := by
  rw [rd_nat, List.getD_eq_getElem?_getD, List.getElem?_eq_getElem h]; rfl
theorem rd_byte {l : List Int} (h : Bytes l) (i : Nat) : 0 ≤ rd l (i : Int) ∧ rd l (i : Int) < 256 := by
  by_cases hi : i < l.length
  · rw [rd_at l i hi]; exact h _ (List.getElem_mem hi)
  · rw [rd_nat, List.getD_eq_getElem?_getD, List.getElem?_eq_none (by omega)]; simp
theorem str_bt {l : List Int} (h : Bytes l) (i : Nat) : bt (strOfNums l) (i : Int) = rd l (i : Int) := by
  rw [bt_nat, strOfNums_data, rd_nat, List.getD_eq_getElem?_getD, List.getD_eq_getElem?_getD, List.getElem?_map]
  by_cases hi : i < l.length
  · rw [List.getElem?_eq_getElem hi]
    simp only [Option.map_some, Option.getD_some]
    have := h _ (List.getElem_mem hi)
    rw [UInt8.toNat_ofNat']; omega
  · rw [List.getElem?_eq_none (by omega)]; rfl
theorem str_cut (l : List Int) (a b : Nat) : (strOfNums l).extract a b = strOfNums ((l.take b).drop a) := by
  apply toList_inj
  rw [toList_data, toList_data, strOfNums_data, ByteArray.data_extract, Array.toList_extract, List.extract_eq_take_drop, strOfNums_data, List.map_drop, List.map_take, List.drop_take]
theorem str_size (l : List Int) : (strOfNums l).size = l.length := strOfNums_size l

/-! ### the number of a row of bytes, high byte first -/
def num (l : List Int) : Int := l.foldl (fun n c => n * 256 + c) 0
theorem num_snoc (l : List Int) (c : Int) : num (l ++ [c]) = num l * 256 + c := by simp [num]
theorem num_take (l : List Int) (i : Nat) (h : i < l.length) : num (l.take (i + 1)) = num (l.take i) * 256 + l[i] := by
  rw [List.take_succ_eq_append_getElem h, num_snoc]
theorem num_0 {l : List Int} (h : Bytes l) : ∀ i, i ≤ l.length → 0 ≤ num (l.take i) ∧ num (l.take i) < 256 ^ i := by
  intro i
  induction i with
  | zero => intro _; rw [List.take_zero]; exact ⟨by decide, by decide⟩
  | succ i ih =>
    intro hi
    have h1 := ih (by omega)
    have h2 := h _ (List.getElem_mem (show i < l.length by omega))
    rw [num_take l i (by omega), Int.pow_succ]
    omega
theorem num_6 {l : List Int} (h : Bytes l) (i : Nat) (hi : i ≤ l.length) (h7 : i ≤ 6) : 0 ≤ num (l.take i) ∧ num (l.take i) < 281474976710656 := by
  have h1 := num_0 h i hi
  rcases (show i = 0 ∨ i = 1 ∨ i = 2 ∨ i = 3 ∨ i = 4 ∨ i = 5 ∨ i = 6 by omega) with e | e | e | e | e | e | e <;> rw [e] at h1 ⊢ <;> omega
theorem num_lt {l : List Int} (h : Bytes l) (n : Nat) (hn : l.length = n) : 0 ≤ num l ∧ num l < 256 ^ n := by
  have := num_0 h l.length (Nat.le_refl _)
  rw [List.take_length] at this; rw [hn] at this; exact this

/-! ### a row copied, two rows compared -/
theorem toByteS_l0 (l : List Int) (hl : l.length ≤ 1048576) (d : Nat) : ∀ (i : Nat) (x : List Int), i + d = l.length → x.length = l.length → (∀ j, j < i → x[j]? = l[j]?) → Ev (fun k => laws_toByteS.l0 k l x (i : Int)) l := by
  induction d with
  | zero =>
    intro i x hi hx hj
    have hxl : x = l := by
      apply List.ext_getElem?
      intro j
      by_cases h : j < i
      · exact hj j h
      · rw [List.getElem?_eq_none (by omega), List.getElem?_eq_none (by omega)]
    subst hxl
    refine Ev.step (f := fun _ => some x) (fun k => ?_) (Ev.now _)
    simp only [laws_toByteS.l0]; rw [if_neg (by omega)]
  | succ d ih =>
    intro i x hi hx hj
    have hw : wrap64 ((i : Int) + 1) = ((i + 1 : Nat) : Int) := by rw [wrap64_id (by omega) (by omega)]; omega
    refine Ev.step (f := fun k => laws_toByteS.l0 k l (x.set i (rd l i)) ((i + 1 : Nat) : Int)) (fun k => ?_) (ih (i + 1) _ (by omega) (by simpa using hx) ?_)
    · simp only [laws_toByteS.l0, hw]; rw [if_pos (by omega), if_pos (by omega), if_pos (by omega)]; rfl
    · intro j hji
      by_cases h : j = i
      · subst h
        rw [List.getElem?_set_self (by omega), rd_nat, List.getD_eq_getElem?_getD, List.getElem?_eq_getElem (by omega)]; rfl
      · rw [List.getElem?_set_ne (by omega)]; exact hj j (by omega)
theorem toByteS_ev (l : List Int) (hl : l.length ≤ 1048576) : Ev (fun k => laws_toByteS.f k l) l := by
  refine Ev.congr (f := fun k => laws_toByteS.l0 k l (List.replicate l.length 0) ((0 : Nat) : Int)) (fun k => ?_) (toByteS_l0 l hl l.length 0 _ (by omega) (by simp) (fun j hj => by omega))
  unfold laws_toByteS.f
  rw [if_pos (by omega), if_pos (by omega)]; rfl

/-! ### a row compared with itself -/
theorem eqByteS_l0 (l : List Int) (hl : l.length ≤ 1048576) (d : Nat) : ∀ (i : Nat), i + d = l.length → Ev (fun k => laws_eqByteS.l0 k l l (i : Int)) true := by
  induction d with
  | zero =>
    intro i hi
    refine Ev.step (f := fun _ => some true) (fun k => ?_) (Ev.now _)
    simp only [laws_eqByteS.l0]; rw [if_neg (by omega)]
  | succ d ih =>
    intro i hi
    have hw : wrap64 ((i : Int) + 1) = ((i + 1 : Nat) : Int) := by rw [wrap64_id (by omega) (by omega)]; omega
    refine Ev.step (f := fun k => laws_eqByteS.l0 k l l ((i + 1 : Nat) : Int)) (fun k => ?_) (ih (i + 1) (by omega))
    simp only [laws_eqByteS.l0, hw]; rw [if_pos (by omega), if_pos (by omega), if_pos (by omega), if_pos trivial]
theorem eqByteS_ev (l : List Int) (hl : l.length ≤ 1048576) : Ev (fun k => laws_eqByteS.f k l l) true := by
  refine Ev.congr (f := fun k => laws_eqByteS.l0 k l l ((0 : Nat) : Int)) (fun k => ?_) (eqByteS_l0 l hl l.length 0 (by omega))
  unfold laws_eqByteS.f
  rw [if_pos rfl]; rfl

/-! ### the program's and the reference's number of bytes -/
theorem impl_num_l0 (l : List Int) (h : Bytes l) (h7 : l.length ≤ 7) (d : Nat) : ∀ i, i + d = l.length → Ev (fun k => impl_num.l0 k (num (l.take i)) l (l.length : Int) (i : Int)) (num l) := by
  induction d with
  | zero =>
    intro i hi
    refine Ev.step (f := fun _ => some (num l)) (fun k => ?_) (Ev.now _)
    simp only [impl_num.l0]; rw [if_neg (by omega), List.take_of_length_le (by omega)]
  | succ d ih =>
    intro i hi
    have hw : wrap64 ((i : Int) + 1) = ((i + 1 : Nat) : Int) := by rw [wrap64_id (by omega) (by omega)]; omega
    have h1 := num_6 h i (by omega) (by omega)
    have h2 := h _ (List.getElem_mem (show i < l.length by omega))
    have h3 := num_take l i (by omega)
    refine Ev.step (fun k => ?_) (ih (i + 1) (by omega))
    simp only [impl_num.l0, hw, rd_at l i (by omega)]
    rw [if_pos (by omega), if_pos (by omega), if_pos (by omega), h3, wrap64_id (x := num (l.take i) * 256) (by omega) (by omega), wrap64_id (x := l[i]) (by omega) (by omega), wrap64_id (by omega) (by omega)]
theorem impl_num_ev (l : List Int) (h : Bytes l) (h7 : l.length ≤ 7) : Ev (fun k => impl_num.f k l) (num l) :=
  impl_num_l0 l h h7 l.length 0 (by omega)
theorem spec_of_l0 (l : List Int) (h : Bytes l) (h7 : l.length ≤ 7) (d : Nat) : ∀ i, i + d = l.length → Ev (fun k => spec_l01Of.l0 k (strOfNums l) (num (l.take i)) (i : Int)) (num l) := by
  induction d with
  | zero =>
    intro i hi
    refine Ev.step (f := fun _ => some (num l)) (fun k => ?_) (Ev.now _)
    simp only [spec_l01Of.l0]; rw [if_neg (by rw [str_size]; omega), List.take_of_length_le (by omega)]
  | succ d ih =>
    intro i hi
    have hw : wrap64 ((i : Int) + 1) = ((i + 1 : Nat) : Int) := by rw [wrap64_id (by omega) (by omega)]; omega
    have h1 := num_6 h i (by omega) (by omega)
    have h2 := h _ (List.getElem_mem (show i < l.length by omega))
    have h3 := num_take l i (by omega)
    refine Ev.step (fun k => ?_) (ih (i + 1) (by omega))
    simp only [spec_l01Of.l0, hw, str_bt h, rd_at l i (by omega)]
    rw [if_pos (by rw [str_size]; omega), if_pos (by omega), h3, wrap64_id (x := num (l.take i) * 256) (by omega) (by omega), wrap64_id (x := l[i]) (by omega) (by omega), wrap64_id (by omega) (by omega)]
theorem spec_of_ev (l : List Int) (h : Bytes l) (h7 : l.length ≤ 7) : Ev (fun k => spec_l01Of.f k (strOfNums l)) (num l) :=
  spec_of_l0 l h h7 l.length 0 (by omega)

/-! ### the sum of words of 16 bits: one number to both -/
theorem sum_l1 (n : Nat) : ∀ c : Int, c.toNat ≤ n → 0 ≤ c → c < 4611686018427387904 → ∃ r, 0 ≤ r ∧ r ≤ 65535 ∧ Ev (fun k => spec_l01Sum16.l1 k c) r ∧ Ev (fun k => impl_sum16.l1 k c) r := by
  induction n with
  | zero =>
    intro c h1 h2 h3
    have : c = 0 := by omega
    subst this
    refine ⟨65535, by omega, by omega, Ev.step (fun k => ?_) (Ev.now _), Ev.step (fun k => ?_) (Ev.now _)⟩
    · simp only [spec_l01Sum16.l1]; rw [if_neg (by omega), wrap64_id (by omega) (by omega)]; rfl
    · simp only [impl_sum16.l1]; rw [if_neg (by omega), wrap64_id (by omega) (by omega)]; rfl
  | succ n ih =>
    intro c h1 h2 h3
    by_cases h : c > 65535
    · have e : wrap64 (Int.tmod c 65536 + wrap64 (Int.tdiv c 65536)) = c % 65536 + c / 65536 := by
        rw [Int.tmod_eq_emod_of_nonneg h2, Int.tdiv_eq_ediv_of_nonneg h2, wrap64_id (x := c / 65536) (by omega) (by omega), wrap64_id (by omega) (by omega)]
      obtain ⟨r, r0, r1, hS, hI⟩ := ih (c % 65536 + c / 65536) (by omega) (by omega) (by omega)
      refine ⟨r, r0, r1, Ev.step (fun k => ?_) hS, Ev.step (fun k => ?_) hI⟩
      · simp only [spec_l01Sum16.l1]; rw [if_pos h, e]
      · simp only [impl_sum16.l1]; rw [if_pos (by omega), e]
    · refine ⟨65535 - c, by omega, by omega, Ev.step (fun k => ?_) (Ev.now _), Ev.step (fun k => ?_) (Ev.now _)⟩
      · simp only [spec_l01Sum16.l1]; rw [if_neg h, wrap64_id (by omega) (by omega)]
      · simp only [impl_sum16.l1]; rw [if_neg (by omega), wrap64_id (by omega) (by omega)]
theorem sum_l0 (l : List Int) (hB : Bytes l) (hl : l.length ≤ 1048576) (d : Nat) : ∀ (i : Nat) (c : Int), i + d = l.length → 0 ≤ c → c ≤ 65280 * i → ∃ r, 0 ≤ r ∧ r ≤ 65535 ∧ Ev (fun k => spec_l01Sum16.l0 k (strOfNums l) c (i : Int)) r ∧ Ev (fun k => impl_sum16.l0 k c l (l.length : Int) (i : Int)) r := by
  induction d with
  | zero =>
    intro i c hi h0 h1
    obtain ⟨r, r0, r1, hS, hI⟩ := sum_l1 c.toNat c (Nat.le_refl _) h0 (by omega)
    refine ⟨r, r0, r1, Ev.step (fun k => ?_) hS, Ev.step (fun k => ?_) hI⟩
    · simp only [spec_l01Sum16.l0]; rw [if_neg (by rw [str_size]; omega)]
    · simp only [impl_sum16.l0]; rw [if_neg (by omega)]
  | succ d ih =>
    intro i c hi h0 h1
    have hw : wrap64 ((i : Int) + 1) = ((i + 1 : Nat) : Int) := by rw [wrap64_id (by omega) (by omega)]; omega
    have hb := rd_byte hB i
    have hm : Int.tmod (i : Int) 2 = ((i % 2 : Nat) : Int) := by rw [Int.tmod_eq_emod_of_nonneg (by omega)]; omega
    have w1 : wrap64 (rd l (i : Int)) = rd l i := wrap64_id (by omega) (by omega)
    by_cases he : i % 2 = 0
    · obtain ⟨r, r0, r1, hS, hI⟩ := ih (i + 1) (c + 256 * rd l i) (by omega) (by omega) (by omega)
      refine ⟨r, r0, r1, Ev.step (fun k => ?_) hS, Ev.step (fun k => ?_) hI⟩
      · simp only [spec_l01Sum16.l0, hw, hm, str_bt hB, w1]
        rw [if_pos (by rw [str_size]; omega), if_pos (by omega), if_pos (by omega), wrap64_id (x := 256 * rd l i) (by omega) (by omega), wrap64_id (by omega) (by omega)]
      · simp only [impl_sum16.l0, hw, hm, w1]
        rw [if_pos (by omega), if_pos (by omega), if_pos (by omega), if_pos (by omega), wrap64_id (x := rd l i * 256) (by omega) (by omega), wrap64_id (by omega) (by omega), Int.mul_comm]
    · obtain ⟨r, r0, r1, hS, hI⟩ := ih (i + 1) (c + rd l i) (by omega) (by omega) (by omega)
      refine ⟨r, r0, r1, Ev.step (fun k => ?_) hS, Ev.step (fun k => ?_) hI⟩
      · simp only [spec_l01Sum16.l0, hw, hm, str_bt hB, w1]
        rw [if_pos (by rw [str_size]; omega), if_neg (by omega), if_pos (by omega), wrap64_id (by omega) (by omega)]
      · simp only [impl_sum16.l0, hw, hm, w1]
        rw [if_pos (by omega), if_pos (by omega), if_pos (by omega), if_neg (by omega), wrap64_id (by omega) (by omega)]
theorem sum_ev (l : List Int) (hB : Bytes l) (hl : l.length ≤ 1048576) : ∃ r, 0 ≤ r ∧ r ≤ 65535 ∧ Ev (fun k => spec_l01Sum16.f k (strOfNums l)) r ∧ Ev (fun k => impl_sum16.f k l) r :=
  sum_l0 l hB hl l.length 0 0 (by omega) (by omega) (by omega)

/-! ### the bytes of a number, high byte first -/
def beL (a : Int) : Nat → List Int
  | 0 => []
  | m + 1 => (a / 2 ^ (8 * m)) % 256 :: beL a m
theorem beL_length (a : Int) (m : Nat) : (beL a m).length = m := by
  induction m with
  | zero => rfl
  | succ m ih => simp [beL, ih]
theorem beL_bytes (a : Int) (m : Nat) : Bytes (beL a m) := by
  induction m with
  | zero => intro x hx; simp [beL] at hx
  | succ m ih =>
    intro x hx
    simp only [beL, List.mem_cons] at hx
    rcases hx with rfl | hx
    · exact ⟨Int.emod_nonneg _ (by decide), Int.emod_lt_of_pos _ (by decide)⟩
    · exact ih x hx
theorem bytesOf_str {l : List Int} (h : Bytes l) : bytesOf (strOfNums l) = l := by
  unfold bytesOf
  rw [strOfNums_data, List.map_map]
  conv => rhs; rw [← List.map_id l]
  apply List.map_congr_left
  intro x hx
  have := h x hx
  simp only [Function.comp, UInt8.toNat_ofNat', id]; omega
theorem str_app (x y : List Int) : strOfNums x ++ strOfNums y = strOfNums (x ++ y) := by
  apply toList_inj
  rw [toList_data, toList_data, ByteArray.data_append, Array.toList_append, strOfNums_data, strOfNums_data, strOfNums_data, List.map_append]
theorem shr_at (a : Int) (i : Nat) (h : i ≤ 7) : shr .i64 a ((8 * i : Nat) : Int) = a / 2 ^ (8 * i) := by
  show a / 2 ^ min (((8 * i : Nat) : Int)).toNat 64 = _
  rw [Int.toNat_natCast, Nat.min_eq_left (by omega)]
theorem w8 (i : Nat) (h : i ≤ 7) : wrap64 (8 * (i : Int)) = ((8 * i : Nat) : Int) := by rw [wrap64_id (by omega) (by omega)]; omega
theorem spec_number_l0 (a : Int) (m : Nat) : ∀ acc : List Int, m ≤ 8 → acc.length + m ≤ 1000 → Ev (fun k => spec_l01Number.l0 k a acc ((m : Int) - 1)) (strOfNums (acc ++ beL a m)) := by
  induction m with
  | zero =>
    intro acc _ _
    refine Ev.step (f := fun _ => some (strOfNums (acc ++ beL a 0))) (fun k => ?_) (Ev.now _)
    simp only [spec_l01Number.l0]; rw [if_neg (by omega), beL, List.append_nil]
  | succ m ih =>
    intro acc hm ha
    have e : ((m + 1 : Nat) : Int) - 1 = (m : Int) := by omega
    have u : IntKind.u64.wrap ((8 * m : Nat) : Int) = ((8 * m : Nat) : Int) := by rw [wrap_u64]; omega
    have w : wrap64 ((m : Int) - 1) = (m : Int) - 1 := wrap64_id (by omega) (by omega)
    have h := ih (acc ++ [(a / 2 ^ (8 * m)) % 256]) (by omega) (by simp; omega)
    rw [List.append_assoc] at h
    refine Ev.step (fun k => ?_) h
    simp only [spec_l01Number.l0, e, w8 m (by omega), u, w, shr_at a m (by omega)]
    rw [if_pos (by omega), if_pos (by omega), if_pos (by omega)]
theorem spec_number_ev (a : Int) (n : Nat) (hn : n ≤ 8) : Ev (fun k => spec_l01Number.f k a (n : Int)) (strOfNums (beL a n)) := by
  refine Ev.congr (fun k => ?_) (spec_number_l0 a n [] hn (by simp; omega))
  unfold spec_l01Number.f
  rw [wrap64_id (by omega) (by omega)]
theorem impl_be_l0 (a : Int) (n : Nat) (hn : n ≤ 8) (d : Nat) : ∀ i : Nat, i + d = n → Ev (fun k => impl_be.l0 k a (n : Int) (List.replicate (n - i) 0 ++ beL a i) (n : Int) (i : Int)) (beL a n) := by
  induction d with
  | zero =>
    intro i hi
    have : i = n := by omega
    subst this
    refine Ev.step (f := fun _ => some (beL a i)) (fun k => ?_) (Ev.now _)
    simp only [impl_be.l0]; rw [if_neg (by omega), Nat.sub_self]; rfl
  | succ d ih =>
    intro i hi
    have w1 : wrap64 ((i : Int) + 1) = ((i + 1 : Nat) : Int) := by rw [wrap64_id (by omega) (by omega)]; omega
    have w2 : wrap64 (wrap64 ((n : Int) - 1) - (i : Int)) = ((n - 1 - i : Nat) : Int) := by
      rw [wrap64_id (x := (n : Int) - 1) (by omega) (by omega), wrap64_id (by omega) (by omega)]; omega
    have hlen : (List.replicate (n - i) 0 ++ beL a i).length = n := by rw [List.length_append, List.length_replicate, beL_length]; omega
    have hset : (List.replicate (n - i) 0 ++ beL a i).set (n - 1 - i) ((a / 2 ^ (8 * i)) % 256) = List.replicate (n - (i + 1)) 0 ++ beL a (i + 1) := by
      have e : n - i = (n - (i + 1)) + 1 := by omega
      have e2 : n - 1 - i = n - (i + 1) := by omega
      rw [e, List.replicate_succ', List.append_assoc, e2, List.set_append_right _ _ (by simp), List.length_replicate, Nat.sub_self]
      rfl
    refine Ev.step (fun k => ?_) (ih (i + 1) (by omega))
    simp only [impl_be.l0, w8 i (by omega), w1, w2, shr_at a i (by omega), hlen, Int.toNat_natCast, hset]
    rw [if_pos (by omega), if_pos (by omega), if_pos (by omega), if_pos (by omega)]
theorem impl_be_ev (a : Int) (n : Nat) (hn : n ≤ 8) : Ev (fun k => impl_be.f k a (n : Int)) (beL a n) := by
  refine Ev.congr (fun k => ?_) (impl_be_l0 a n hn n 0 (by omega))
  unfold impl_be.f
  rw [if_pos (by omega), if_pos (by omega), Option.bind_some, Int.toNat_natCast, List.length_replicate, beL, List.append_nil]; rfl

/-! ### rows laid one behind the other -/
theorem bytesOf_app (x y : ByteArray) : bytesOf (x ++ y) = bytesOf x ++ bytesOf y := by
  unfold bytesOf; rw [ByteArray.data_append, Array.toList_append, List.map_append]
theorem bytesOf_len (x : ByteArray) : (bytesOf x).length = x.size := bytesOf_length x
theorem size_app (x y : ByteArray) : (x ++ y).size = x.size + y.size := ByteArray.size_append
theorem flat_take (ls : List (List Int)) (i : Nat) (h : i < ls.length) : (ls.take (i + 1)).flatten = (ls.take i).flatten ++ ls[i] := by
  rw [List.take_succ_eq_append_getElem h, List.flatten_append, List.flatten_cons, List.flatten_nil, List.append_nil]
theorem flat_le (ls : List (List Int)) (i : Nat) : (ls.take i).flatten.length ≤ ls.flatten.length := by
  conv => rhs; rw [← List.take_append_drop i ls]
  rw [List.flatten_append, List.length_append]; omega
theorem rdL_at (ls : List (List Int)) (i : Nat) (h : i < ls.length) : rd_L1 ls (i : Int) = ls[i] := by
  simp [rd_L1, List.getD_eq_getElem?_getD, h]
theorem concat_l1 (ls : List (List Int)) (hn : ls.length ≤ 1000) (ht : ls.flatten.length ≤ 100000000) (d : Nat) : ∀ i : Nat, i + d = ls.length → Ev (fun k => slices_Concat_byte_byte.l1 k (ls.take i).flatten ls (ls.length : Int) (i : Int)) ls.flatten := by
  induction d with
  | zero =>
    intro i hi
    refine Ev.step (f := fun _ => some ls.flatten) (fun k => ?_) (Ev.now _)
    simp only [slices_Concat_byte_byte.l1]; rw [if_neg (by omega), List.take_of_length_le (by omega)]
  | succ d ih =>
    intro i hi
    have w1 : wrap64 ((i : Int) + 1) = ((i + 1 : Nat) : Int) := by rw [wrap64_id (by omega) (by omega)]; omega
    have h := flat_take ls i (by omega)
    have h2 := flat_le ls (i + 1)
    rw [h, List.length_append] at h2
    refine Ev.step (fun k => ?_) (ih (i + 1) (by omega))
    simp only [slices_Concat_byte_byte.l1, w1, rdL_at ls i (by omega), h]
    rw [if_pos (by omega), if_pos (by omega), if_pos (by omega), if_pos (by omega)]
theorem concat_l0 (ls : List (List Int)) (hn : ls.length ≤ 1000) (ht : ls.flatten.length ≤ 100000000) (d : Nat) : ∀ i : Nat, i + d = ls.length → Ev (fun k => slices_Concat_byte_byte.l0 k ls (((ls.take i).flatten.length : Nat) : Int) ls (ls.length : Int) (i : Int)) ls.flatten := by
  induction d with
  | zero =>
    intro i hi
    have h2 := flat_le ls i
    refine Ev.step (f := fun k => slices_Concat_byte_byte.l1 k [] ls (ls.length : Int) 0) (fun k => ?_) (Ev.congr (fun k => rfl) (concat_l1 ls hn ht ls.length 0 (by omega)))
    simp only [slices_Concat_byte_byte.l0, slices_Grow_byte_byte.f]
    rw [if_neg (by omega), if_pos (show ([] : List Int).length = 0 from rfl), if_pos (by omega), if_pos (by omega), Option.bind_some]
  | succ d ih =>
    intro i hi
    have w1 : wrap64 ((i : Int) + 1) = ((i + 1 : Nat) : Int) := by rw [wrap64_id (by omega) (by omega)]; omega
    have h := flat_take ls i (by omega)
    have h2 := flat_le ls (i + 1)
    rw [h, List.length_append] at h2
    have w2 : wrap64 (((ls.take i).flatten.length : Nat) + (ls[i].length : Int)) = (((ls.take (i + 1)).flatten.length : Nat) : Int) := by rw [h, List.length_append, wrap64_id (by omega) (by omega)]; omega
    refine Ev.step (fun k => ?_) (ih (i + 1) (by omega))
    simp only [slices_Concat_byte_byte.l0, w1, rdL_at ls i (by omega), w2]
    rw [if_pos (by omega), if_pos (by omega), if_pos (by omega), if_neg (by omega)]
theorem concat_ev (ls : List (List Int)) (hn : ls.length ≤ 1000) (ht : ls.flatten.length ≤ 100000000) : Ev (fun k => slices_Concat_byte_byte.f k ls) ls.flatten :=
  Ev.congr (fun k => rfl) (concat_l0 ls hn ht ls.length 0 (by omega))

/-! ### the sum with what stands ahead of a segment or datagram -/
def ahead (src dst proto len : Int) : List Int := beL src 4 ++ (beL dst 4 ++ (beL proto 2 ++ beL len 2))
theorem ahead_bytes (src dst proto len : Int) : Bytes (ahead src dst proto len) := by
  intro x hx
  unfold ahead at hx
  simp only [List.mem_append] at hx
  rcases hx with h | h | h | h <;> exact beL_bytes _ _ x h
theorem ahead_length (src dst proto len : Int) : (ahead src dst proto len).length = 12 := by simp [ahead, beL_length]
theorem bytes_append {x y : List Int} (hx : Bytes x) (hy : Bytes y) : Bytes (x ++ y) := fun z hz => by
  rcases List.mem_append.1 hz with h | h
  · exact hx z h
  · exact hy z h
theorem pseudo_ev (src dst proto : Int) (n : Int) (hp : 0 ≤ proto ∧ proto < 256) : Ev (fun k => spec_l02Pseudo.f k src dst proto n) (strOfNums (ahead src dst proto n)) := by
  have e0 : (⟨#[0]⟩ : ByteArray) = strOfNums [0] := by decide +kernel
  have e2 : beL proto 2 = 0 :: beL proto 1 := by
    have : proto / 2 ^ (8 * 1) % 256 = 0 := by
      have : proto / 2 ^ (8 * 1) = 0 := Int.ediv_eq_zero_of_lt (by omega) (by omega)
      rw [this]; rfl
    show proto / 2 ^ (8 * 1) % 256 :: beL proto 1 = _
    rw [this]
  have z : ∀ a m, (strOfNums (beL a m)).size = m := fun a m => by rw [str_size, beL_length]
  have z0 : (⟨#[0]⟩ : ByteArray).size = 1 := rfl
  refine Ev.congr (fun k => by unfold spec_l02Pseudo.f; rfl) ?_
  refine Ev.bind (spec_number_ev src 4 (by omega)) (Ev.bind (spec_number_ev dst 4 (by omega)) ?_)
  refine Ev.congr (fun k => by rw [if_pos (by simp only [z]; omega), if_pos (by simp only [size_app, z]; omega)]) ?_
  refine Ev.bind (spec_number_ev proto 1 (by omega)) ?_
  refine Ev.congr (fun k => by rw [if_pos (by simp only [size_app, z, z0]; omega)]) ?_
  refine Ev.bind (spec_number_ev n 2 (by omega)) ?_
  refine Ev.congr (fun k => ?_) (Ev.now _)
  rw [if_pos (by simp only [size_app, z, z0]; omega), e0, str_app, str_app, str_app, str_app]
  unfold ahead
  rw [e2]
  simp only [List.append_assoc, List.cons_append, List.nil_append]
theorem ends_ev (src dst proto : Int) (l : List Int) (hB : Bytes l) (hl : l.length ≤ 65536) : ∃ r, 0 ≤ r ∧ r ≤ 65535 ∧ Ev (fun k => spec_l01Sum16.f k (strOfNums (ahead src dst proto l.length) ++ strOfNums l)) r ∧ Ev (fun k => impl_withEnds.f k src dst proto l) r := by
  obtain ⟨r, r0, r1, hS, hI⟩ := sum_ev (ahead src dst proto l.length ++ l) (bytes_append (ahead_bytes _ _ _ _) hB) (by rw [List.length_append, ahead_length]; omega)
  refine ⟨r, r0, r1, by rw [str_app]; exact hS, ?_⟩
  have hF : [beL src 4, beL dst 4, beL proto 2, beL (l.length : Int) 2, l].flatten = ahead src dst proto l.length ++ l := by
    simp [ahead]
  refine Ev.congr (fun k => by unfold impl_withEnds.f; rfl) ?_
  refine Ev.bind (impl_be_ev src 4 (by omega)) (Ev.bind (impl_be_ev dst 4 (by omega)) (Ev.bind (impl_be_ev proto 2 (by omega)) (Ev.bind (impl_be_ev (l.length : Int) 2 (by omega)) ?_)))
  refine Ev.bind (concat_ev _ (by simp) (by rw [hF, List.length_append, ahead_length]; omega)) ?_
  rw [hF]
  exact Ev.bind hI (Ev.now _)

-- SAYS: ReadSegment: both ask the same of a row, and of its sum with what stands ahead of it, and cut it at the same places.
-- USES: Bytes Wire Eq Num Sum Be Concat Ends
abbrev Sg := Int × Int × Int × Int × Int × Int × ByteArray × Int
abbrev noSg (c : Int) : Sg := (0, 0, 0, 0, 0, 0, ⟨#[]⟩, c)
theorem readSegment (src dst : Int) (l : List Int) (hB : Bytes l) : ∃ r : Sg, Ev (fun k => spec_l02ReadSegment.f k src dst (strOfNums l)) r ∧ Ev (fun k => impl_readSegment.f k src dst l) r := by
  have hs : (strOfNums l).size = l.length := str_size l
  have sT : Ev (fun k => spec_l02ReadSegment.j0 k src dst (strOfNums l) true) (noSg 3) := Ev.step (fun k => by simp only [spec_l02ReadSegment.j0]; rw [if_pos (by decide)]) (Ev.now _)
  have iT : Ev (fun k => impl_readSegment.j0 k src dst l true) (noSg 3) := Ev.step (fun k => by simp only [impl_readSegment.j0]; rw [if_pos (by decide)]) (Ev.now _)
  have sT1 : ∀ n, Ev (fun k => spec_l02ReadSegment.j1 k src dst (strOfNums l) n true) (noSg 3) := fun n => Ev.step (fun k => by simp only [spec_l02ReadSegment.j1]; rw [if_pos (by decide)]) (Ev.now _)
  by_cases h1 : 20 ≤ l.length ∧ l.length ≤ 380
  · have p2 : (2 : Int) ≤ l.length := by omega
    have p4 : (4 : Int) ≤ l.length := by omega
    have p8 : (8 : Int) ≤ l.length := by omega
    have p12 : (12 : Int) ≤ l.length := by omega
    have p12' : (12 : Int) < l.length := by omega
    have p13 : (13 : Int) < l.length := by omega
    have p16 : (16 : Int) ≤ l.length := by omega
    have cut : ∀ a b : Nat, (strOfNums l).extract a b = strOfNums ((l.take b).drop a) := str_cut l
    have hn : ∀ a b : Nat, a ≤ b → b ≤ 20 → ((l.take b).drop a).length = b - a := fun a b h2 h3 => by rw [List.length_drop, List.length_take]; omega
    have bb : ∀ a b : Nat, Bytes ((l.take b).drop a) := fun a b => bytes_drop (bytes_take hB b) a
    have S : ∀ a b : Nat, a ≤ b → b ≤ 20 → b - a ≤ 7 → Ev (fun k => spec_l01Of.f k (strOfNums ((l.take b).drop a))) (num ((l.take b).drop a)) := fun a b h2 h3 h4 => spec_of_ev _ (bb a b) (by rw [hn a b h2 h3]; exact h4)
    have I : ∀ a b : Nat, a ≤ b → b ≤ 20 → b - a ≤ 7 → Ev (fun k => impl_num.f k ((l.take b).drop a)) (num ((l.take b).drop a)) := fun a b h2 h3 h4 => impl_num_ev _ (bb a b) (by rw [hn a b h2 h3]; exact h4)
    have S0 : Ev (fun k => spec_l01Of.f k (strOfNums (l.take 2))) (num (l.take 2)) := S 0 2 (by omega) (by omega) (by omega)
    have I0 : Ev (fun k => impl_num.f k (l.take 2)) (num (l.take 2)) := I 0 2 (by omega) (by omega) (by omega)
    have e12 : bt (strOfNums l) 12 = rd l 12 := str_bt hB 12
    have e13 : bt (strOfNums l) 13 = rd l 13 := str_bt hB 13
    have r12 := rd_byte hB 12
    simp only [show ((12 : Nat) : Int) = 12 from rfl] at r12
    obtain ⟨n, hn4⟩ : ∃ n : Nat, (n : Int) = 4 * (rd l 12 / 16) := ⟨(4 * (rd l 12 / 16)).toNat, by omega⟩
    have wS : wrap64 (4 * wrap64 (rd l 12 / 16)) = (n : Int) := by rw [wrap64_id (x := rd l 12 / 16) (by omega) (by omega), wrap64_id (by omega) (by omega), hn4]
    have wI : IntKind.u8.wrap (Int.tdiv (rd l 12) 16) * 4 = (n : Int) := by rw [wrap_u8, Int.tdiv_eq_ediv_of_nonneg r12.1]; omega
    have cutE : (strOfNums l).extract n l.length = strOfNums (l.drop n) := by rw [str_cut, List.take_length]
    obtain ⟨s, s0, s1, hS, hI⟩ := ends_ev src dst 6 l hB (by omega)
    have tail : 20 ≤ n → n ≤ l.length → ∃ r : Sg, Ev (fun k => spec_l02ReadSegment.j1 k src dst (strOfNums l) (n : Int) false) r ∧ Ev (fun k => impl_readSegment.j0 k src dst l false) r := by
      intro n0 n1
      have q0 : (0 : Int) ≤ (n : Int) := by omega
      have q1 : (n : Int) ≤ l.length := by omega
      by_cases hz : s = 0
      · refine ⟨(num (l.take 2), num ((l.take 4).drop 2), num ((l.take 8).drop 4), num ((l.take 12).drop 8), Go.bits .and .i64 (wrap64 (rd l 13)) 31, num ((l.take 16).drop 14), strOfNums (l.drop n), 0), ?_, ?_⟩
        · refine Ev.step (fun k => by simp only [spec_l02ReadSegment.j1, Bool.false_eq_true, if_false]; rfl) ?_
          refine Ev.bind (by rw [hs]; exact pseudo_ev src dst 6 l.length (by omega)) ?_
          refine Ev.congr (fun k => by rw [if_pos (by rw [str_size, str_size, ahead_length]; omega)]) ?_
          refine Ev.bind hS ?_
          simp only [hz, if_true, hs, cut, List.drop_zero, p2, p4, p8, p12, p13, p16, e13, Int.reduceLE, Nat.reduceLeDiff, q0, q1, Int.toNat_natCast, List.take_length]
          exact Ev.bind S0 (Ev.bind (S 2 4 (by omega) (by omega) (by omega)) (Ev.bind (S 4 8 (by omega) (by omega) (by omega)) (Ev.bind (S 8 12 (by omega) (by omega) (by omega)) (Ev.bind (S 14 16 (by omega) (by omega) (by omega)) (Ev.now _)))))
        · refine Ev.step (fun k => by simp only [impl_readSegment.j0, Bool.false_eq_true, if_false]; rfl) ?_
          refine Ev.bind hI ?_
          simp only [hz, if_true, p2, p4, p8, p12, p12', p13, p16, wI, Int.reduceLE, Nat.reduceLeDiff, q0, q1, Int.toNat_natCast]
          exact Ev.bind I0 (Ev.bind (I 2 4 (by omega) (by omega) (by omega)) (Ev.bind (I 4 8 (by omega) (by omega) (by omega)) (Ev.bind (I 8 12 (by omega) (by omega) (by omega)) (Ev.bind (I 14 16 (by omega) (by omega) (by omega)) (Ev.now _)))))
      · refine ⟨noSg 8, ?_, ?_⟩
        · refine Ev.step (fun k => by simp only [spec_l02ReadSegment.j1, Bool.false_eq_true, if_false]; rfl) ?_
          refine Ev.bind (by rw [hs]; exact pseudo_ev src dst 6 l.length (by omega)) ?_
          refine Ev.congr (fun k => by rw [if_pos (by rw [str_size, str_size, ahead_length]; omega)]) ?_
          refine Ev.bind hS ?_
          simp only [hz, if_false]
          exact Ev.now _
        · refine Ev.step (fun k => by simp only [impl_readSegment.j0, Bool.false_eq_true, if_false]; rfl) ?_
          refine Ev.bind hI ?_
          simp only [hz, if_false]
          exact Ev.now _
    have sJ : ∀ r, (n < 20 → Ev (fun k => spec_l02ReadSegment.j1 k src dst (strOfNums l) (n : Int) true) r) → (¬ n < 20 → Ev (fun k => spec_l02ReadSegment.j1 k src dst (strOfNums l) (n : Int) (decide ((n : Int) > l.length))) r) → Ev (fun k => spec_l02ReadSegment.f k src dst (strOfNums l)) r := fun r ha hb => by
      refine Ev.congr (f := fun k => spec_l02ReadSegment.j0 k src dst (strOfNums l) false) (fun k => by unfold spec_l02ReadSegment.f; rw [hs, if_neg (by omega), decide_eq_false (by omega)]) ?_
      by_cases h : n < 20
      · refine Ev.step (fun k => ?_) (ha h)
        simp only [spec_l02ReadSegment.j0, hs, e12, wS]
        rw [if_neg (by decide), if_pos p12', if_pos (by omega)]
      · refine Ev.step (fun k => ?_) (hb h)
        simp only [spec_l02ReadSegment.j0, hs, e12, wS]
        rw [if_neg (by decide), if_pos p12', if_neg (by omega)]
    have iJ : ∀ r, Ev (fun k => impl_readSegment.j0 k src dst l (!(if (n : Int) ≥ 20 then decide ((n : Int) ≤ l.length) else false))) r → Ev (fun k => impl_readSegment.f k src dst l) r := fun r h => by
      refine Ev.congr (fun k => ?_) h
      unfold impl_readSegment.f
      rw [show impl_within.f (l.length : Int) 20 380 = some true from by unfold impl_within.f; rw [if_pos (by omega), decide_eq_true (by omega)], Option.bind_some, if_pos rfl, if_pos p12', wI]
      unfold impl_within.f
      split <;> rfl
    by_cases n0 : 20 ≤ n
    · by_cases n1 : n ≤ l.length
      · obtain ⟨r, g1, g2⟩ := tail n0 n1
        refine ⟨r, sJ r (fun h => absurd h (by omega)) (fun _ => ?_), iJ r ?_⟩
        · rw [decide_eq_false (by omega)]; exact g1
        · rw [if_pos (by omega), decide_eq_true (by omega)]; exact g2
      · refine ⟨noSg 3, sJ _ (fun h => absurd h (by omega)) (fun _ => ?_), iJ _ ?_⟩
        · rw [decide_eq_true (by omega)]; exact sT1 _
        · rw [if_pos (by omega), decide_eq_false (by omega)]; exact iT
    · refine ⟨noSg 3, sJ _ (fun _ => sT1 _) (fun h => absurd (by omega) h), iJ _ ?_⟩
      rw [if_neg (by omega)]; exact iT
  · refine ⟨noSg 3, Ev.congr (fun k => ?_) sT, Ev.congr (fun k => ?_) iT⟩
    · unfold spec_l02ReadSegment.f
      rw [hs]
      by_cases h2 : (l.length : Int) < 20
      · rw [if_pos h2]
      · rw [if_neg h2, decide_eq_true (by omega)]
    · unfold impl_readSegment.f impl_within.f
      by_cases h2 : (l.length : Int) ≥ 20
      · rw [if_pos h2, decide_eq_false (by omega)]; rfl
      · rw [if_neg h2]; rfl
theorem FnExactReadSegment : laws_FnExactReadSegment.Pure := by
  intro src dst l _ _ _ _ hb
  apply Ev.rounds
  by_cases h0 : (l.length : Int) > 1048576
  · refine Ev.congr (fun k => ?_) (Ev.now true)
    unfold laws_FnExactReadSegment.f; rw [if_pos h0]
  · have hT := toByteS_ev l (by omega)
    have hE := eqByteS_ev l (by omega)
    have hB := bytes_wf hb
    have key : ∃ r : Sg, Ev (fun k => spec_ReadSegment.f k src dst l) r ∧ Ev (fun k => impl_ReadSegment.f k src dst l) r := by
      by_cases h1 : (l.length : Int) > 65536
      · refine ⟨noSg 2, Ev.congr (fun k => by unfold spec_ReadSegment.f; rw [if_pos h1]) (Ev.now _), Ev.congr (fun k => ?_) (Ev.now _)⟩
        unfold impl_ReadSegment.f impl_askedBytes.f; rw [if_pos h1, Option.bind_some, if_neg (by decide)]
      · by_cases h2 : (0 ≤ src ∧ src ≤ 4294967295) ∧ (0 ≤ dst ∧ dst ≤ 4294967295)
        · obtain ⟨⟨r1, r2, r3, r4, r5, r6, r7, r8⟩, hS, hI⟩ := readSegment src dst l hB
          refine ⟨(r1, r2, r3, r4, r5, r6, r7, r8), Ev.congr (f := fun k => (spec_l02ReadSegment.f k src dst (strOfNums l)).bind fun bt => some (bt.1, bt.2.1, bt.2.2.1, bt.2.2.2.1, bt.2.2.2.2.1, bt.2.2.2.2.2.1, bt.2.2.2.2.2.2.1, bt.2.2.2.2.2.2.2)) (fun k => ?_) (Ev.bind hS (Ev.now _)), Ev.congr (f := fun k => (impl_readSegment.f k src dst l).bind fun bt => some (bt.1, bt.2.1, bt.2.2.1, bt.2.2.2.1, bt.2.2.2.2.1, bt.2.2.2.2.2.1, bt.2.2.2.2.2.2.1, bt.2.2.2.2.2.2.2)) (fun k => ?_) (Ev.bind hI (Ev.now _))⟩
          · unfold spec_ReadSegment.f; rw [if_neg h1]
            simp only [spec_l01Ip.f, spec_l01In.f, h2.1.1, h2.1.2, h2.2.1, h2.2.2, decide_true, if_true, Option.bind_some]
          · unfold impl_ReadSegment.f impl_askedBytes.f; rw [if_neg h1]
            simp only [impl_isAddress.f, impl_within.f, ge_iff_le, h2.1.1, h2.1.2, h2.2.1, h2.2.2, decide_true, if_true, Option.bind_some]
        · refine ⟨noSg 4, Ev.congr (fun k => ?_) (Ev.now _), Ev.congr (fun k => ?_) (Ev.now _)⟩
          · unfold spec_ReadSegment.f; rw [if_neg h1]
            simp only [spec_l01Ip.f, spec_l01In.f, Option.bind_some]
            by_cases g1 : 0 ≤ src
            · by_cases g2 : src ≤ 4294967295
              · by_cases g3 : 0 ≤ dst
                · have g4 : ¬ dst ≤ 4294967295 := fun g4 => h2 ⟨⟨g1, g2⟩, g3, g4⟩
                  simp [g1, g2, g3, g4]
                · simp [g1, g2, g3]
              · simp [g1, g2]
            · simp [g1]
          · unfold impl_ReadSegment.f impl_askedBytes.f; rw [if_neg h1]
            simp only [impl_isAddress.f, impl_within.f, ge_iff_le, Option.bind_some]
            by_cases g1 : 0 ≤ src
            · by_cases g2 : src ≤ 4294967295
              · by_cases g3 : 0 ≤ dst
                · have g4 : ¬ dst ≤ 4294967295 := fun g4 => h2 ⟨⟨g1, g2⟩, g3, g4⟩
                  simp [g1, g2, g3, g4]
                · simp [g1, g2, g3]
              · simp [g1, g2]
            · simp [g1]
    obtain ⟨⟨r1, r2, r3, r4, r5, r6, r7, r8⟩, hS, hI⟩ := key
    refine Ev.congr (fun k => by unfold laws_FnExactReadSegment.f; rw [if_neg h0]) ?_
    refine Ev.bind hT (Ev.bind hS (Ev.bind hT (Ev.bind hI ?_)))
    simp only [laws_eqSegment.f, if_true, bne_self_eq_false, Option.bind_some]
    refine Ev.step (fun k => by simp only [laws_FnExactReadSegment.j0]; rw [if_neg (by decide)]) ?_
    refine Ev.bind hT (Ev.bind hE (Ev.now _))

end Go.Proofs.Ythfhflgiblmooaa.Pure
