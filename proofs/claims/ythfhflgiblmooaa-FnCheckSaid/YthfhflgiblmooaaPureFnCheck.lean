/- FnCheck: with its sum behind it a drawn text of an even length has the sum 0, and a bit turned changes it. -/
import Derived.Test.YthfhflgiblmooaaPFcx3
import Derived.Test.YthfhflgiblmooaaBase
set_option linter.unusedSimpArgs false
set_option linter.unusedVariables false
namespace Go.Proofs.Ythfhflgiblmooaa.Pure
open Go.RowKit Go.Proofs.Ythfhflgiblmooaa.PFc Go.Proofs.YthfhflgiblmooaaW.PrintWords Go.Proofs.YthfhflgiblmooaaW.PrintLast Go.Proofs.YthfhflgiblmooaaW.PrintMore Base

/-! ### rows of bytes and the strings of them -/
def Bytes (l : List Int) : Prop := ∀ x ∈ l, 0 ≤ x ∧ x < 256
theorem bytes_wf {l : List Int} (h : ∀ x ∈ l, (Lit.int .u8 x).wf = true) : Bytes l := fun x hx => wf_u8 (h x hx)
theorem bytes_take {l : List Int} (h : Bytes l) (n : Nat) : Bytes (l.take n) := fun x hx => h x (List.mem_of_mem_take hx)
theorem bytes_drop {l : List Int} (h : Bytes l) (n : Nat) : Bytes (l.drop n) := fun x hx => h x (List.mem_of_mem_drop hx)
theorem rd_nat (l : List Int) (i : Nat) : rd l (i : Int) = l.getD i 0 := by simp [rd]
theorem rd_at (l : List Int) (i : Nat) (h : i < l.length) : rd l (i : Int) = l[i] := by
  rw [rd_nat, List.getD_eq_getElem?_getD, List.getElem?_eq_getElem h]; rfl
theorem rd_byte {l : List Int} (h : Bytes l) (i : Nat) : 0 ≤ rd l (i : Int) ∧ rd l (i : Int) < 256 := by
  by_cases hi : i < l.length
  · rw [rd_at l i hi]; exact h _ (List.getElem_mem hi)
  · rw [rd_nat, List.getD_eq_getElem?_getD, List.getElem?_eq_none (by omega)]; simp
theorem str_bt {l : List Int} (h : Bytes l) (i : Nat) : bt (strOfNums l) (i : Int) = rd l (i : Int) := by
  rw [bt_nat, strOfNums_data, rd_nat, List.getD_eq_getElem?_getD, List.getD_eq_getElem?_getD, List.getElem?_map]
  by_cases hi : i < l.length
  · rw [List.getElem?_eq_getElem hi]
    simp only [Option.map_some, Option.getD_some]
    have := h _ (List.getElem_mem hi)
    rw [UInt8.toNat_ofNat']; omega
  · rw [List.getElem?_eq_none (by omega)]; rfl
theorem str_cut (l : List Int) (a b : Nat) : (strOfNums l).extract a b = strOfNums ((l.take b).drop a) := by
  apply toList_inj
  rw [toList_data, toList_data, strOfNums_data, ByteArray.data_extract, Array.toList_extract, List.extract_eq_take_drop, strOfNums_data, List.map_drop, List.map_take, List.drop_take]
theorem str_size (l : List Int) : (strOfNums l).size = l.length := strOfNums_size l

/-! ### the number of a row of bytes, high byte first -/
def num (l : List Int) : Int := l.foldl (fun n c => n * 256 + c) 0
theorem num_snoc (l : List Int) (c : Int) : num (l ++ [c]) = num l * 256 + c := by simp [num]
theorem num_take (l : List Int) (i : Nat) (h : i < l.length) : num (l.take (i + 1)) = num (l.take i) * 256 + l[i] := by
  rw [List.take_succ_eq_append_getElem h, num_snoc]
theorem num_0 {l : List Int} (h : Bytes l) : ∀ i, i ≤ l.length → 0 ≤ num (l.take i) ∧ num (l.take i) < 256 ^ i := by
  intro i
  induction i with
  | zero => intro _; rw [List.take_zero]; exact ⟨by decide, by decide⟩
  | succ i ih =>
    intro hi
    have h1 := ih (by omega)
    have h2 := h _ (List.getElem_mem (show i < l.length by omega))
    rw [num_take l i (by omega), Int.pow_succ]
    omega
theorem num_6 {l : List Int} (h : Bytes l) (i : Nat) (hi : i ≤ l.length) (h7 : i ≤ 6) : 0 ≤ num (l.take i) ∧ num (l.take i) < 281474976710656 := by
  have h1 := num_0 h i hi
  rcases (show i = 0 ∨ i = 1 ∨ i = 2 ∨ i = 3 ∨ i = 4 ∨ i = 5 ∨ i = 6 by omega) with e | e | e | e | e | e | e <;> rw [e] at h1 ⊢ <;> omega
theorem num_lt {l : List Int} (h : Bytes l) (n : Nat) (hn : l.length = n) : 0 ≤ num l ∧ num l < 256 ^ n := by
  have := num_0 h l.length (Nat.le_refl _)
  rw [List.take_length] at this; rw [hn] at this; exact this

/-! ### the sum of words of 16 bits: one number to both -/
theorem sum_l1 (n : Nat) : ∀ c : Int, c.toNat ≤ n → 0 ≤ c → c < 4611686018427387904 → ∃ r, 0 ≤ r ∧ r ≤ 65535 ∧ Ev (fun k => spec_l01Sum16.l1 k c) r ∧ Ev (fun k => impl_sum16.l1 k c) r := by
  induction n with
  | zero =>
    intro c h1 h2 h3
    have : c = 0 := by omega
    subst this
    refine ⟨65535, by omega, by omega, Ev.step (fun k => ?_) (Ev.now _), Ev.step (fun k => ?_) (Ev.now _)⟩
    · simp only [spec_l01Sum16.l1]; rw [if_neg (by omega), wrap64_id (by omega) (by omega)]; rfl
    · simp only [impl_sum16.l1]; rw [if_neg (by omega), wrap64_id (by omega) (by omega)]; rfl
  | succ n ih =>
    intro c h1 h2 h3
    by_cases h : c > 65535
    · have e : wrap64 (Int.tmod c 65536 + wrap64 (Int.tdiv c 65536)) = c % 65536 + c / 65536 := by
        rw [Int.tmod_eq_emod_of_nonneg h2, Int.tdiv_eq_ediv_of_nonneg h2, wrap64_id (x := c / 65536) (by omega) (by omega), wrap64_id (by omega) (by omega)]
      obtain ⟨r, r0, r1, hS, hI⟩ := ih (c % 65536 + c / 65536) (by omega) (by omega) (by omega)
      refine ⟨r, r0, r1, Ev.step (fun k => ?_) hS, Ev.step (fun k => ?_) hI⟩
      · simp only [spec_l01Sum16.l1]; rw [if_pos h, e]
      · simp only [impl_sum16.l1]; rw [if_pos (by omega), e]
    · refine ⟨65535 - c, by omega, by omega, Ev.step (fun k => ?_) (Ev.now _), Ev.step (fun k => ?_) (Ev.now _)⟩
      · simp only [spec_l01Sum16.l1]; rw [if_neg h, wrap64_id (by omega) (by omega)]
      · simp only [impl_sum16.l1]; rw [if_neg (by omega), wrap64_id (by omega) (by omega)]
theorem sum_l0 (l : List Int) (hB : Bytes l) (hl : l.length ≤ 1048576) (d : Nat) : ∀ (i : Nat) (c : Int), i + d = l.length → 0 ≤ c → c ≤ 65280 * i → ∃ r, 0 ≤ r ∧ r ≤ 65535 ∧ Ev (fun k => spec_l01Sum16.l0 k (strOfNums l) c (i : Int)) r ∧ Ev (fun k => impl_sum16.l0 k c l (l.length : Int) (i : Int)) r := by
  induction d with
  | zero =>
    intro i c hi h0 h1
    obtain ⟨r, r0, r1, hS, hI⟩ := sum_l1 c.toNat c (Nat.le_refl _) h0 (by omega)
    refine ⟨r, r0, r1, Ev.step (fun k => ?_) hS, Ev.step (fun k => ?_) hI⟩
    · simp only [spec_l01Sum16.l0]; rw [if_neg (by rw [str_size]; omega)]
    · simp only [impl_sum16.l0]; rw [if_neg (by omega)]
  | succ d ih =>
    intro i c hi h0 h1
    have hw : wrap64 ((i : Int) + 1) = ((i + 1 : Nat) : Int) := by rw [wrap64_id (by omega) (by omega)]; omega
    have hb := rd_byte hB i
    have hm : Int.tmod (i : Int) 2 = ((i % 2 : Nat) : Int) := by rw [Int.tmod_eq_emod_of_nonneg (by omega)]; omega
    have w1 : wrap64 (rd l (i : Int)) = rd l i := wrap64_id (by omega) (by omega)
    by_cases he : i % 2 = 0
    · obtain ⟨r, r0, r1, hS, hI⟩ := ih (i + 1) (c + 256 * rd l i) (by omega) (by omega) (by omega)
      refine ⟨r, r0, r1, Ev.step (fun k => ?_) hS, Ev.step (fun k => ?_) hI⟩
      · simp only [spec_l01Sum16.l0, hw, hm, str_bt hB, w1]
        rw [if_pos (by rw [str_size]; omega), if_pos (by omega), if_pos (by omega), wrap64_id (x := 256 * rd l i) (by omega) (by omega), wrap64_id (by omega) (by omega)]
      · simp only [impl_sum16.l0, hw, hm, w1]
        rw [if_pos (by omega), if_pos (by omega), if_pos (by omega), if_pos (by omega), wrap64_id (x := rd l i * 256) (by omega) (by omega), wrap64_id (by omega) (by omega), Int.mul_comm]
    · obtain ⟨r, r0, r1, hS, hI⟩ := ih (i + 1) (c + rd l i) (by omega) (by omega) (by omega)
      refine ⟨r, r0, r1, Ev.step (fun k => ?_) hS, Ev.step (fun k => ?_) hI⟩
      · simp only [spec_l01Sum16.l0, hw, hm, str_bt hB, w1]
        rw [if_pos (by rw [str_size]; omega), if_neg (by omega), if_pos (by omega), wrap64_id (by omega) (by omega)]
      · simp only [impl_sum16.l0, hw, hm, w1]
        rw [if_pos (by omega), if_pos (by omega), if_pos (by omega), if_neg (by omega), wrap64_id (by omega) (by omega)]
theorem sum_ev (l : List Int) (hB : Bytes l) (hl : l.length ≤ 1048576) : ∃ r, 0 ≤ r ∧ r ≤ 65535 ∧ Ev (fun k => spec_l01Sum16.f k (strOfNums l)) r ∧ Ev (fun k => impl_sum16.f k l) r :=
  sum_l0 l hB hl l.length 0 0 (by omega) (by omega) (by omega)

/-! ### the bytes of a number, high byte first -/
def beL (a : Int) : Nat → List Int
  | 0 => []
  | m + 1 => (a / 2 ^ (8 * m)) % 256 :: beL a m
theorem beL_length (a : Int) (m : Nat) : (beL a m).length = m := by
  induction m with
  | zero => rfl
  | succ m ih => simp [beL, ih]
theorem beL_bytes (a : Int) (m : Nat) : Bytes (beL a m) := by
  induction m with
  | zero => intro x hx; simp [beL] at hx
  | succ m ih =>
    intro x hx
    simp only [beL, List.mem_cons] at hx
    rcases hx with rfl | hx
    · exact ⟨Int.emod_nonneg _ (by decide), Int.emod_lt_of_pos _ (by decide)⟩
    · exact ih x hx
theorem bytesOf_str {l : List Int} (h : Bytes l) : bytesOf (strOfNums l) = l := by
  unfold bytesOf
  rw [strOfNums_data, List.map_map]
  conv => rhs; rw [← List.map_id l]
  apply List.map_congr_left
  intro x hx
  have := h x hx
  simp only [Function.comp, UInt8.toNat_ofNat', id]; omega
theorem str_app (x y : List Int) : strOfNums x ++ strOfNums y = strOfNums (x ++ y) := by
  apply toList_inj
  rw [toList_data, toList_data, ByteArray.data_append, Array.toList_append, strOfNums_data, strOfNums_data, strOfNums_data, List.map_append]
theorem shr_at (a : Int) (i : Nat) (h : i ≤ 7) : shr .i64 a ((8 * i : Nat) : Int) = a / 2 ^ (8 * i) := by
  show a / 2 ^ min (((8 * i : Nat) : Int)).toNat 64 = _
  rw [Int.toNat_natCast, Nat.min_eq_left (by omega)]
theorem w8 (i : Nat) (h : i ≤ 7) : wrap64 (8 * (i : Int)) = ((8 * i : Nat) : Int) := by rw [wrap64_id (by omega) (by omega)]; omega
theorem impl_be_l0 (a : Int) (n : Nat) (hn : n ≤ 8) (d : Nat) : ∀ i : Nat, i + d = n → Ev (fun k => impl_be.l0 k a (n : Int) (List.replicate (n - i) 0 ++ beL a i) (n : Int) (i : Int)) (beL a n) := by
  induction d with
  | zero =>
    intro i hi
    have : i = n := by omega
    subst this
    refine Ev.step (f := fun _ => some (beL a i)) (fun k => ?_) (Ev.now _)
    simp only [impl_be.l0]; rw [if_neg (by omega), Nat.sub_self]; rfl
  | succ d ih =>
    intro i hi
    have w1 : wrap64 ((i : Int) + 1) = ((i + 1 : Nat) : Int) := by rw [wrap64_id (by omega) (by omega)]; omega
    have w2 : wrap64 (wrap64 ((n : Int) - 1) - (i : Int)) = ((n - 1 - i : Nat) : Int) := by
      rw [wrap64_id (x := (n : Int) - 1) (by omega) (by omega), wrap64_id (by omega) (by omega)]; omega
    have hlen : (List.replicate (n - i) 0 ++ beL a i).length = n := by rw [List.length_append, List.length_replicate, beL_length]; omega
    have hset : (List.replicate (n - i) 0 ++ beL a i).set (n - 1 - i) ((a / 2 ^ (8 * i)) % 256) = List.replicate (n - (i + 1)) 0 ++ beL a (i + 1) := by
      have e : n - i = (n - (i + 1)) + 1 := by omega
      have e2 : n - 1 - i = n - (i + 1) := by omega
      rw [e, List.replicate_succ', List.append_assoc, e2, List.set_append_right _ _ (by simp), List.length_replicate, Nat.sub_self]
      rfl
    refine Ev.step (fun k => ?_) (ih (i + 1) (by omega))
    simp only [impl_be.l0, w8 i (by omega), w1, w2, shr_at a i (by omega), hlen, Int.toNat_natCast, hset]
    rw [if_pos (by omega), if_pos (by omega), if_pos (by omega), if_pos (by omega)]
theorem impl_be_ev (a : Int) (n : Nat) (hn : n ≤ 8) : Ev (fun k => impl_be.f k a (n : Int)) (beL a n) := by
  refine Ev.congr (fun k => ?_) (impl_be_l0 a n hn n 0 (by omega))
  unfold impl_be.f
  rw [if_pos (by omega), if_pos (by omega), Option.bind_some, Int.toNat_natCast, List.length_replicate, beL, List.append_nil]; rfl

/-! ### what the sum of words is -/
def ws (l : List Int) : Nat → Int
  | 0 => 0
  | i + 1 => ws l i + (if i % 2 = 0 then 256 * rd l (i : Int) else rd l (i : Int))
theorem ws_0 {l : List Int} (h : Bytes l) (i : Nat) : 0 ≤ ws l i ∧ ws l i ≤ 65280 * i := by
  induction i with
  | zero => exact ⟨Int.le_refl _, Int.le_refl _⟩
  | succ i ih =>
    have hb := rd_byte h i
    simp only [ws]
    split <;> omega
theorem rd_left (t u : List Int) (i : Nat) (h : i < t.length) : rd (t ++ u) (i : Int) = rd t (i : Int) := by
  rw [rd_nat, rd_nat, List.getD_eq_getElem?_getD, List.getD_eq_getElem?_getD, List.getElem?_append_left h]
theorem rd_right (t u : List Int) (i : Nat) : rd (t ++ u) ((t.length + i : Nat) : Int) = rd u (i : Int) := by
  rw [rd_nat, rd_nat, List.getD_eq_getElem?_getD, List.getD_eq_getElem?_getD, List.getElem?_append_right (by omega)]
  rw [show t.length + i - t.length = i by omega]
theorem ws_left (t u : List Int) (i : Nat) (h : i ≤ t.length) : ws (t ++ u) i = ws t i := by
  induction i with
  | zero => rfl
  | succ i ih => simp only [ws]; rw [ih (by omega), rd_left t u i (by omega)]
theorem ws_right (t u : List Int) (he : t.length % 2 = 0) (i : Nat) : ws (t ++ u) (t.length + i) = ws t t.length + ws u i := by
  induction i with
  | zero => rw [Nat.add_zero, ws_left t u _ (Nat.le_refl _)]; simp only [ws]; omega
  | succ i ih =>
    rw [show t.length + (i + 1) = (t.length + i) + 1 by omega]
    simp only [ws]
    rw [ih, rd_right]
    have : (t.length + i) % 2 = i % 2 := by omega
    rw [this]; split <;> omega
theorem ws_append (t u : List Int) (he : t.length % 2 = 0) : ws (t ++ u) (t ++ u).length = ws t t.length + ws u u.length := by
  rw [List.length_append]; exact ws_right t u he _
theorem ws_be (n : Int) (h0 : 0 ≤ n) (h1 : n < 65536) : ws (beL n 2) (beL n 2).length = n := by
  have e : beL n 2 = [n / 2 ^ (8 * 1) % 256, n / 2 ^ (8 * 0) % 256] := rfl
  rw [e]
  simp only [List.length_cons, List.length_nil, ws, rd, Nat.reduceAdd, Nat.zero_mod, Nat.reduceMod, if_true]
  simp
  omega
theorem rd_set (l : List Int) (k i : Nat) (v : Int) (hk : k < l.length) : rd (l.set k v) (i : Int) = if i = k then v else rd l (i : Int) := by
  rw [rd_nat, rd_nat, List.getD_eq_getElem?_getD, List.getD_eq_getElem?_getD]
  by_cases h : i = k
  · subst h; rw [if_pos rfl, List.getElem?_set_self hk]; rfl
  · rw [if_neg h, List.getElem?_set_ne (Ne.symm h)]
theorem ws_set (l : List Int) (k : Nat) (v : Int) (hk : k < l.length) (i : Nat) : ws (l.set k v) i = ws l i + (if k < i then (if k % 2 = 0 then 256 * (v - rd l k) else v - rd l k) else 0) := by
  induction i with
  | zero => simp [ws]
  | succ i ih =>
    simp only [ws]
    rw [ih, rd_set l k i v hk]
    by_cases h : i = k
    · subst h
      rw [if_pos rfl, if_neg (show ¬ i < i by omega), if_pos (show i < i + 1 by omega)]
      by_cases hp : i % 2 = 0
      · simp only [if_pos hp]; omega
      · simp only [if_neg hp]; omega
    · rw [if_neg h]
      by_cases h2 : k < i
      · rw [if_pos h2, if_pos (show k < i + 1 by omega)]
        generalize (if i % 2 = 0 then 256 * rd l (i : Int) else rd l (i : Int)) = x
        generalize (if k % 2 = 0 then 256 * (v - rd l k) else v - rd l k) = y
        omega
      · rw [if_neg h2, if_neg (show ¬ k < i + 1 by omega)]
        generalize (if i % 2 = 0 then 256 * rd l (i : Int) else rd l (i : Int)) = x
        omega
/-- The sum, folded. -/
def fold (c : Int) : Int := if c = 0 then 0 else (c - 1) % 65535 + 1
theorem fold_0 (c : Int) (h : 0 ≤ c) : 0 ≤ fold c ∧ fold c ≤ 65535 := by unfold fold; split <;> omega
theorem impl_fold (n : Nat) : ∀ c : Int, c.toNat ≤ n → 0 ≤ c → c < 4611686018427387904 → Ev (fun k => impl_sum16.l1 k c) (65535 - fold c) := by
  induction n with
  | zero =>
    intro c h1 h2 h3
    have : c = 0 := by omega
    subst this
    refine Ev.step (f := fun _ => some (65535 - fold 0)) (fun k => ?_) (Ev.now _)
    simp only [impl_sum16.l1]; rw [if_neg (by omega), wrap64_id (by omega) (by omega)]; rfl
  | succ n ih =>
    intro c h1 h2 h3
    by_cases h : c > 65535
    · have e : wrap64 (Int.tmod c 65536 + wrap64 (Int.tdiv c 65536)) = c % 65536 + c / 65536 := by
        rw [Int.tmod_eq_emod_of_nonneg h2, Int.tdiv_eq_ediv_of_nonneg h2, wrap64_id (x := c / 65536) (by omega) (by omega), wrap64_id (by omega) (by omega)]
      have ef : fold (c % 65536 + c / 65536) = fold c := by
        unfold fold
        rw [if_neg (by omega), if_neg (by omega)]; omega
      have hI := ih (c % 65536 + c / 65536) (by omega) (by omega) (by omega)
      rw [ef] at hI
      refine Ev.step (fun k => ?_) hI
      simp only [impl_sum16.l1]; rw [if_pos (by omega), e]
    · have ef : fold c = c := by unfold fold; split <;> omega
      rw [ef]
      refine Ev.step (f := fun _ => some (65535 - c)) (fun k => ?_) (Ev.now _)
      simp only [impl_sum16.l1]; rw [if_neg (by omega), wrap64_id (by omega) (by omega)]
theorem impl_ws_l0 (l : List Int) (hB : Bytes l) (hl : l.length ≤ 1048576) (d : Nat) : ∀ i : Nat, i + d = l.length → Ev (fun k => impl_sum16.l0 k (ws l i) l (l.length : Int) (i : Int)) (65535 - fold (ws l l.length)) := by
  induction d with
  | zero =>
    intro i hi
    have h0 := ws_0 hB i
    have := impl_fold (ws l i).toNat (ws l i) (Nat.le_refl _) h0.1 (by omega)
    have hi' : i = l.length := by omega
    subst hi'
    refine Ev.step (fun k => ?_) this
    simp only [impl_sum16.l0]; rw [if_neg (by omega)]
  | succ d ih =>
    intro i hi
    have h0 := ws_0 hB i
    have hb := rd_byte hB i
    have hw : wrap64 ((i : Int) + 1) = ((i + 1 : Nat) : Int) := by rw [wrap64_id (by omega) (by omega)]; omega
    have hm : Int.tmod (i : Int) 2 = ((i % 2 : Nat) : Int) := by rw [Int.tmod_eq_emod_of_nonneg (by omega)]; omega
    have w1 : wrap64 (rd l (i : Int)) = rd l i := wrap64_id (by omega) (by omega)
    have hI := ih (i + 1) (by omega)
    simp only [ws] at hI
    refine Ev.step (fun k => ?_) hI
    simp only [impl_sum16.l0, hw, hm, w1]
    rw [if_pos (by omega), if_pos (by omega), if_pos (by omega)]
    by_cases he : i % 2 = 0
    · rw [if_pos (by omega), if_pos he, wrap64_id (x := rd l i * 256) (by omega) (by omega), wrap64_id (by omega) (by omega), Int.mul_comm]
    · rw [if_neg (by omega), if_neg he, wrap64_id (by omega) (by omega)]
theorem impl_ws_ev (l : List Int) (hB : Bytes l) (hl : l.length ≤ 1048576) : Ev (fun k => impl_sum16.f k l) (65535 - fold (ws l l.length)) :=
  Ev.congr (fun k => by unfold impl_sum16.f; rfl) (impl_ws_l0 l hB hl l.length 0 (by omega))
theorem ev_one {α : Type} {g : Nat → Option α} {a b : α} (h1 : Ev g a) (h2 : Ev g b) : a = b := by
  obtain ⟨K1, h1⟩ := h1
  obtain ⟨K2, h2⟩ := h2
  have e1 := h1 (max K1 K2) (by omega)
  have e2 := h2 (max K1 K2) (by omega)
  rw [e1] at e2; exact Option.some.inj e2
/-- The same of the reference's. -/
theorem spec_ws_ev (l : List Int) (hB : Bytes l) (hl : l.length ≤ 1048576) : Ev (fun k => spec_l01Sum16.f k (strOfNums l)) (65535 - fold (ws l l.length)) := by
  obtain ⟨r, _, _, hS, hI⟩ := sum_ev l hB hl
  rw [ev_one (impl_ws_ev l hB hl) hI]; exact hS
/-! ### a bit turned -/
theorem flip_all : ∀ b : Fin 256, ∀ s : Fin 8, Go.bits .xor .u8 ((b.val : Nat) : Int) (2 ^ s.val) = (b.val : Int) + 2 ^ s.val ∧ (b.val : Int) + 2 ^ s.val < 256 ∨ Go.bits .xor .u8 ((b.val : Nat) : Int) (2 ^ s.val) = (b.val : Int) - 2 ^ s.val ∧ 0 ≤ (b.val : Int) - 2 ^ s.val := by decide +kernel
theorem flip_byte (b s : Int) (hb : 0 ≤ b ∧ b < 256) (hs : 0 ≤ s ∧ s < 8) : ∃ v p : Int, Go.bits .xor .u8 b (shl .u8 1 (IntKind.u64.wrap s)) = v ∧ (v = b + p ∨ v = b - p) ∧ 1 ≤ p ∧ p ≤ 128 ∧ 0 ≤ v ∧ v < 256 ∧ 0 ≤ IntKind.u64.wrap s := by
  have hw : IntKind.u64.wrap s = s := by rw [wrap_u64]; omega
  have h := flip_all ⟨b.toNat, by omega⟩ ⟨s.toNat, by omega⟩
  simp only [] at h
  have eb : ((b.toNat : Nat) : Int) = b := by omega
  rw [eb] at h
  have hp : (1 : Int) ≤ 2 ^ s.toNat ∧ (2 : Int) ^ s.toNat ≤ 128 := by
    rcases (show s = 0 ∨ s = 1 ∨ s = 2 ∨ s = 3 ∨ s = 4 ∨ s = 5 ∨ s = 6 ∨ s = 7 by omega) with rfl | rfl | rfl | rfl | rfl | rfl | rfl | rfl <;> decide
  have hsh : shl .u8 1 s = 2 ^ s.toNat := by
    rcases (show s = 0 ∨ s = 1 ∨ s = 2 ∨ s = 3 ∨ s = 4 ∨ s = 5 ∨ s = 6 ∨ s = 7 by omega) with rfl | rfl | rfl | rfl | rfl | rfl | rfl | rfl <;> decide +kernel
  rw [hw, hsh]
  rcases h with ⟨h1, h2⟩ | ⟨h1, h2⟩
  · exact ⟨_, 2 ^ s.toNat, rfl, .inl h1, hp.1, hp.2, by omega, by omega, hs.1⟩
  · exact ⟨_, 2 ^ s.toNat, rfl, .inr h1, hp.1, hp.2, by omega, by omega, hs.1⟩
/-- A row whose sum is right, with a bit turned: its sum is not right. -/
theorem flip_sum (l : List Int) (k : Nat) (v p : Int) (hk : k < l.length) (hv : v = rd l k + p ∨ v = rd l k - p) (hp : 1 ≤ p ∧ p ≤ 128) (h : fold (ws l l.length) = 65535) (h0 : 0 ≤ ws l l.length) (h1 : 0 ≤ ws (l.set k v) l.length) : fold (ws (l.set k v) l.length) ≠ 65535 := by
  rw [ws_set l k v hk, if_pos hk] at *
  unfold fold at *
  split at h
  · omega
  · split
    · omega
    · split <;> (rcases hv with hv | hv <;> omega)
theorem set_bytes {l : List Int} (h : Bytes l) (k : Nat) (v : Int) (hv : 0 ≤ v ∧ v < 256) : Bytes (l.set k v) := fun x hx => by
  rcases List.mem_or_eq_of_mem_set hx with h1 | h1
  · exact h x h1
  · subst h1; exact hv
/-! ### draws out of a code -/
theorem src_byte {l : List Int} (h : Bytes l) (at_ sd : Int) (h0 : 0 ≤ at_ ∧ at_ ≤ 1000000000) (h1 : 0 ≤ sd ∧ sd < 2147483648) : ∃ r q : Int, spec_l00Src_byte.f l at_ sd = some (r, at_ + 1, q) ∧ (0 ≤ r ∧ r < 256) ∧ (0 ≤ q ∧ q < 2147483648) := by
  obtain ⟨i, rfl⟩ : ∃ i : Nat, at_ = i := ⟨at_.toNat, by omega⟩
  have hb := rd_byte h i
  unfold spec_l00Src_byte.f
  rw [if_pos ⟨h0, h1, by omega, by omega⟩]
  split
  · exact ⟨_, _, rfl, hb, by omega⟩
  · split
    · exact ⟨_, _, rfl, by omega, h1⟩
    · exact ⟨_, _, rfl, by omega, by omega⟩
theorem src_next {l : List Int} (h : Bytes l) (at_ sd n : Int) (h0 : 0 ≤ at_ ∧ at_ ≤ 1000000000) (h1 : 0 ≤ sd ∧ sd < 2147483648) (hn : 1 ≤ n ∧ n ≤ 256) : ∃ r a q : Int, spec_l00Src_next.f l at_ sd n = some (r, a, q) ∧ (0 ≤ r ∧ r < n) ∧ (at_ ≤ a ∧ a ≤ at_ + 1) ∧ (0 ≤ q ∧ q < 2147483648) := by
  unfold spec_l00Src_next.f
  by_cases h2 : n ≤ 1
  · rw [if_pos h2]; exact ⟨_, _, _, rfl, by omega, by omega, h1⟩
  · obtain ⟨r, q, hr, hr2, hq⟩ := src_byte h at_ sd h0 h1
    rw [if_neg h2, if_pos hn.2, hr, Option.bind_some, if_neg (by omega)]
    refine ⟨_, at_ + 1, q, rfl, ?_, by omega, hq⟩
    rw [Int.tmod_eq_emod_of_nonneg hr2.1]
    exact ⟨Int.emod_nonneg _ (by omega), Int.emod_lt_of_pos _ (by omega)⟩
/-! ### a choice out of bytes -/
theorem at_ev {l : List Int} (h : Bytes l) (hl : l.length ≤ 1048576) (i n : Nat) (hi : i ≤ 1000) (hn : 1 ≤ n ∧ n ≤ 1000000) : ∃ r : Nat, laws_at.f l (i : Int) (n : Int) = some (r : Int) ∧ r < n := by
  unfold laws_at.f
  by_cases h2 : (n : Int) ≤ 1
  · exact ⟨0, by rw [if_pos h2]; rfl, by omega⟩
  · rw [if_neg h2]
    by_cases h3 : (l.length : Int) = 0
    · rw [if_pos h3, if_neg (by omega), wrap64_id (by omega) (by omega), Int.tmod_eq_emod_of_nonneg (by omega)]
      exact ⟨(i * 7) % n, by rw [Int.natCast_emod, Int.natCast_mul]; rfl, Nat.mod_lt _ (by omega)⟩
    · have e1 : Int.tmod (i : Int) (l.length : Int) = ((i % l.length : Nat) : Int) := by rw [Int.tmod_eq_emod_of_nonneg (by omega), Int.natCast_emod]
      have e2 : Int.tmod (wrap64 ((i : Int) + 1)) (l.length : Int) = (((i + 1) % l.length : Nat) : Int) := by rw [wrap64_id (by omega) (by omega), Int.tmod_eq_emod_of_nonneg (by omega), Int.natCast_emod]; rfl
      obtain ⟨w, hw⟩ : ∃ w, w = i / l.length := ⟨_, rfl⟩
      have e3 : Int.tdiv (i : Int) (l.length : Int) = (w : Int) := by rw [hw, Int.tdiv_eq_ediv_of_nonneg (by omega), Int.natCast_ediv]
      obtain ⟨x1, hx1⟩ : ∃ x, x = i % l.length := ⟨_, rfl⟩
      obtain ⟨x2, hx2⟩ : ∃ x, x = (i + 1) % l.length := ⟨_, rfl⟩
      have l1 : i % l.length < l.length := Nat.mod_lt _ (by omega)
      have l2 : (i + 1) % l.length < l.length := Nat.mod_lt _ (by omega)
      have b1 := rd_byte h (i % l.length)
      have b2 := rd_byte h ((i + 1) % l.length)
      have d1 : w ≤ i := by rw [hw]; exact Nat.div_le_self _ _
      rw [← hx1] at e1 l1 b1
      rw [← hx2] at e2 l2 b2
      rw [if_neg h3, e1, e2, e3, if_pos (by omega), if_pos (by omega), if_pos (by omega), if_pos (by omega), if_neg (by omega)]
      rw [wrap64_id (x := rd l (x1 : Int)) (by omega) (by omega), wrap64_id (x := rd l (x1 : Int) * 31) (by omega) (by omega), wrap64_id (x := rd l (x2 : Int)) (by omega) (by omega), wrap64_id (x := rd l (x1 : Int) * 31 + rd l (x2 : Int)) (by omega) (by omega), wrap64_id (x := (w : Int)) (by omega) (by omega), wrap64_id (by omega) (by omega)]
      obtain ⟨m, hm⟩ : ∃ m : Nat, rd l (x1 : Int) * 31 + rd l (x2 : Int) + (w : Int) = m := ⟨(rd l (x1 : Int) * 31 + rd l (x2 : Int) + (w : Int)).toNat, by omega⟩
      rw [hm, Int.tmod_eq_emod_of_nonneg (by omega)]
      exact ⟨m % n, by rw [Int.natCast_emod], Nat.mod_lt _ (by omega)⟩
-- SAYS: FnCheck: with its sum behind it a drawn text of an even length has the sum 0, and a bit turned changes it.
-- USES: Bytes Sum BeI Ws Src
theorem src_bytes_l0 {l : List Int} (h : Bytes l) (d : Nat) : ∀ (acc : List Int) (at_ sd : Int), Bytes acc → acc.length + d ≤ 1000 → (0 ≤ at_ ∧ at_ + d ≤ 1000000000) → (0 ≤ sd ∧ sd < 2147483648) → ∃ r : List Int × Int × Int, Bytes r.1 ∧ r.1.length = acc.length + d ∧ Ev (fun k => spec_l00Src_bytes.l0 k acc (d : Int) l at_ sd) r := by
  induction d with
  | zero =>
    intro acc at_ sd hB _ _ _
    refine ⟨(acc, at_, sd), hB, rfl, Ev.step (fun k => ?_) (Ev.now _)⟩
    simp only [spec_l00Src_bytes.l0]; rw [if_neg (by omega)]
  | succ d ih =>
    intro acc at_ sd hB hl h0 h1
    obtain ⟨r, a, q, hr, hr2, ha, hq⟩ := src_next h at_ sd 256 (by omega) h1 (by omega)
    have w1 : wrap64 (((d + 1 : Nat) : Int) - 1) = (d : Int) := by rw [wrap64_id (by omega) (by omega)]; omega
    have hB2 : Bytes (acc ++ [r % 256]) := fun x hx => by
      rcases List.mem_append.1 hx with h2 | h2
      · exact hB x h2
      · rw [List.mem_singleton] at h2; omega
    obtain ⟨res, hb, hlen, hE⟩ := ih (acc ++ [r % 256]) a q hB2 (by rw [List.length_append, List.length_singleton]; omega) (by omega) hq
    refine ⟨res, hb, by rw [hlen, List.length_append, List.length_singleton]; omega, Ev.step (fun k => ?_) hE⟩
    simp only [spec_l00Src_bytes.l0]
    rw [if_pos (by omega), hr, Option.bind_some, if_pos (by omega), w1]
theorem bytesOf_ev {l : List Int} (h : Bytes l) (hl : l.length ≤ 1048576) : ∃ t : List Int, Bytes t ∧ t.length ≤ 40 ∧ Ev (fun k => spec_BytesOf.f k l 40) t := by
  obtain ⟨r, a, q, hr, hr2, ha, hq⟩ := src_next h 0 ((l.length : Int) % 1000) 41 (by omega) (by omega) (by omega)
  obtain ⟨m, rfl⟩ : ∃ m : Nat, r = m := ⟨r.toNat, by omega⟩
  obtain ⟨res, hb, hlen, hE⟩ := src_bytes_l0 h m [] a q (fun x hx => by simp at hx) (by simp; omega) (by omega) hq
  refine ⟨res.1, hb, by rw [hlen]; simp; omega, ?_⟩
  refine Ev.congr (fun k => by unfold spec_BytesOf.f spec_l00Source.f; rw [Option.bind_some]) ?_
  refine Ev.bind (a := res) ?_ (Ev.now _)
  refine Ev.congr (fun k => ?_) hE
  unfold spec_l00Src_bytes.f
  rw [show wrap64 (40 + 1) = 41 by rw [wrap64_id (by omega) (by omega)]; rfl, hr, Option.bind_some]
theorem check_impl (l : List Int) (hB : Bytes l) (hl : l.length ≤ 65536) : Ev (fun k => impl_Check16.f k l) (65535 - fold (ws l l.length)) := by
  refine Ev.congr (fun k => by unfold impl_Check16.f; rw [if_neg (by omega)]) ?_
  exact Ev.bind (impl_ws_ev l hB (by omega)) (Ev.now _)
theorem check_spec (l : List Int) (hB : Bytes l) (hl : l.length ≤ 65536) : Ev (fun k => spec_Check16.f k l) (65535 - fold (ws l l.length)) := by
  refine Ev.congr (fun k => by unfold spec_Check16.f; rw [if_neg (by omega)]) ?_
  exact Ev.bind (spec_ws_ev l hB (by omega)) (Ev.now _)
theorem number_two (n : Int) (h0 : 0 ≤ n) (h1 : n ≤ 65535) : Ev (fun k => impl_NumberBytes.f k n 2) (beL n 2, (0 : Int)) := by
  have e : shr .i64 n (wrap64 (8 * 2)) = 0 := by
    rw [show wrap64 (8 * 2) = ((8 * 2 : Nat) : Int) by rw [wrap64_id (by omega) (by omega)]; rfl, shr_at n 2 (by omega)]
    exact Int.ediv_eq_zero_of_lt h0 (by omega)
  refine Ev.congr (fun k => by unfold impl_NumberBytes.f impl_within.f; rw [if_pos (by decide), Option.bind_some, if_pos (by decide), if_neg (by omega), if_pos (by rw [wrap64_id (by omega) (by omega)]; omega), e, if_neg (by decide)]) ?_
  exact Ev.bind (impl_be_ev n 2 (by omega)) (Ev.now _)
theorem FnCheck : laws_FnCheck.Pure := by
  intro l0 l1 _ _ hw0 _ _ hw1
  apply Ev.rounds
  have hB0 := bytes_wf hw0
  have hB1 := bytes_wf hw1
  have jT : Ev (fun k => laws_FnCheck.j0 k l0 l1 true) true := Ev.step (fun k => by simp only [laws_FnCheck.j0]; rw [if_pos trivial]) (Ev.now _)
  by_cases h0 : l0.length > 1048576
  · exact Ev.congr (fun k => by unfold laws_FnCheck.f; rw [if_pos (by omega)]) jT
  by_cases h1 : l1.length > 1048576
  · exact Ev.congr (fun k => by unfold laws_FnCheck.f; rw [if_neg (by omega), decide_eq_true (by omega)]) jT
  refine Ev.congr (fun k => by unfold laws_FnCheck.f; rw [if_neg (by omega), decide_eq_false (by omega)]) ?_
  obtain ⟨t, hBt, hlt, hEt⟩ := bytesOf_ev hB0 (by omega)
  -- what follows a text of an even length
  have key : ∀ t : List Int, Bytes t → t.length ≤ 41 → t.length % 2 = 0 → Ev (fun k => laws_FnCheck.j1 k l1 t) true := by
    intro t hBt hlt he
    obtain ⟨n, hn⟩ : ∃ n, n = 65535 - fold (ws t t.length) := ⟨_, rfl⟩
    have hw := ws_0 hBt t.length
    have hf := fold_0 _ hw.1
    have hI := check_impl t hBt (by omega)
    have hS := check_spec t hBt (by omega)
    rw [← hn] at hI hS
    obtain ⟨full, hfull⟩ : ∃ f, f = t ++ beL n 2 := ⟨_, rfl⟩
    have hBf : Bytes full := by
      rw [hfull]; intro x hx
      rcases List.mem_append.1 hx with h | h
      · exact hBt x h
      · exact beL_bytes _ _ x h
    have hlf : full.length = t.length + 2 := by rw [hfull, List.length_append, beL_length]
    have hsf : ws full full.length = ws t t.length + n := by
      rw [hfull, ws_append _ _ he, ws_be n (by omega) (by omega)]
    have hff : fold (ws full full.length) = 65535 := by
      rw [hsf, hn]
      unfold fold
      split
      · rw [if_neg (by omega)]; omega
      · rw [if_neg (by omega)]; omega
    have hIf := check_impl full hBf (by omega)
    rw [hff] at hIf
    refine Ev.step (fun k => by simp only [laws_FnCheck.j1]; rfl) ?_
    refine Ev.bind hI (Ev.bind (number_two n (by omega) (by omega)) (Ev.bind hS ?_))
    refine Ev.congr (fun k => by rw [if_pos rfl, if_pos rfl, show ((((beL n 2).length : Nat) : Int) != 2) = false by rw [beL_length]; rfl]) ?_
    refine Ev.step (fun k => by simp only [laws_FnCheck.j2]; rw [if_neg (by decide), Option.bind_some, if_pos (by simp only [List.length_nil]; omega), Option.bind_some, List.nil_append, if_pos (by rw [beL_length]; omega), Option.bind_some, ← hfull]) ?_
    refine Ev.bind hIf ?_
    refine Ev.congr (fun k => by rw [if_pos (by omega)]) ?_
    by_cases hz : n = 0
    · rw [show (n == 0) = true by rw [hz]; rfl]
      refine Ev.step (fun k => by simp only [laws_FnCheck.j3]; rw [if_pos trivial]) ?_
      exact Ev.bind hIf (Ev.now _)
    · rw [show (n == 0) = false from beq_eq_false_iff_ne.2 hz]
      obtain ⟨i, hi, hi2⟩ := at_ev hB1 (by omega) 0 full.length (by omega) (by omega)
      obtain ⟨s, hs, hs2⟩ := at_ev hB1 (by omega) 1 8 (by omega) (by omega)
      have hb := rd_byte hBf i
      obtain ⟨v, p, hv, hvp, hp1, hp2, hv0, hv1, hsw⟩ := flip_byte (rd full (i : Int)) (s : Int) hb (by omega)
      have hBs : Bytes (full.set i v) := set_bytes hBf i v ⟨hv0, hv1⟩
      have hls : (full.set i v).length = full.length := List.length_set
      have hIs := check_impl (full.set i v) hBs (by omega)
      have hw0 := ws_0 hBf full.length
      have hws := ws_0 hBs full.length
      have hne := flip_sum full i v p hi2 hvp ⟨hp1, hp2⟩ hff hw0.1 hws.1
      rw [hls] at hIs
      have hi' : laws_at.f l1 0 (full.length : Int) = some (i : Int) := hi
      have hs' : laws_at.f l1 1 8 = some (s : Int) := hs
      refine Ev.step (fun k => by simp only [laws_FnCheck.j3]; rw [if_neg (by decide), hi', Option.bind_some, Option.bind_some, if_pos (by simp only [List.length_nil]; omega), Option.bind_some, List.nil_append, if_pos (by omega), if_pos (by omega), hs', Option.bind_some, if_pos hsw, hv, Int.toNat_natCast]) ?_
      refine Ev.bind hIs ?_
      refine Ev.congr (fun k => by rw [show ((65535 - fold (ws (full.set i v) full.length)) != 0) = true from bne_iff_ne.2 (by omega)]) (Ev.now _)
  refine Ev.step (fun k => by simp only [laws_FnCheck.j0]; rw [if_neg (by decide), Option.bind_some]) ?_
  refine Ev.bind hEt ?_
  refine Ev.congr (fun k => by rw [if_pos (by simp only [List.length_nil]; omega), Option.bind_some, List.nil_append]) ?_
  by_cases he : t.length % 2 = 0
  · refine Ev.congr (fun k => by rw [if_neg (by omega)]) (key t hBt (by omega) he)
  · refine Ev.congr (fun k => by rw [if_pos (by omega), if_pos (by omega)]) (key (t ++ [0]) ?_ (by rw [List.length_append, List.length_singleton]; omega) (by rw [List.length_append, List.length_singleton]; omega))
    intro x hx
    rcases List.mem_append.1 hx with h2 | h2
    · exact hBt x h2
    · rw [List.mem_singleton] at h2; omega

end Go.Proofs.Ythfhflgiblmooaa.Pure
