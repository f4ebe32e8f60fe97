/- PacketBytes: a right packet is the same row to both, with the sum of its head; what is not right is refused alike; the program's row is its caller's own. -/
import Derived.Test.YthfhflgiblmooaaPPbx5
import Derived.Test.YthfhflgiblmooaaBase
set_option linter.unusedSimpArgs false
set_option linter.unusedVariables false
namespace Go.Proofs.Ythfhflgiblmooaa.Pure
open Go.RowKit Go.Proofs.Ythfhflgiblmooaa.PPb Go.Proofs.YthfhflgiblmooaaW.PrintWords Go.Proofs.YthfhflgiblmooaaW.PrintLast Go.Proofs.YthfhflgiblmooaaW.PrintMore Base

/-! ### rows of bytes and the strings of them -/
def Bytes (l : List Int) : Prop := ∀ x ∈ l, 0 ≤ x ∧ x < 256
theorem bytes_wf {l : List Int} (h : ∀ x ∈ l, (Lit.int .u8 x).wf = true) : Bytes l := fun x hx => wf_u8 (h x hx)
theorem bytes_take {l : List Int} (h : Bytes l) (n : Nat) : Bytes (l.take n) := fun x hx => h x (List.mem_of_mem_take hx)
theorem bytes_drop {l : List Int} (h : Bytes l) (n : Nat) : Bytes (l.drop n) := fun x hx => h x (List.mem_of_mem_drop hx)
theorem rd_nat (l : List Int) (i : Nat) : rd l (i : Int) = l.getD i 0 := by simp [rd]
theorem rd_at (l : List Int) (i : Nat) (h : i < l.length) : rd l (i : Int) = l[i] := by
  rw [rd_nat, List.getD_eq_getElem?_getD, List.getElem?_eq_getElem h]; rfl
theorem rd_byte {l : List Int} (h : Bytes l) (i : Nat) : 0 ≤ rd l (i : Int) ∧ rd l (i : Int) < 256 := by
  by_cases hi : i < l.length
  · rw [rd_at l i hi]; exact h _ (List.getElem_mem hi)
  · rw [rd_nat, List.getD_eq_getElem?_getD, List.getElem?_eq_none (by omega)]; simp
theorem str_bt {l : List Int} (h : Bytes l) (i : Nat) : bt (strOfNums l) (i : Int) = rd l (i : Int) := by
  rw [bt_nat, strOfNums_data, rd_nat, List.getD_eq_getElem?_getD, List.getD_eq_getElem?_getD, List.getElem?_map]
  by_cases hi : i < l.length
  · rw [List.getElem?_eq_getElem hi]
    simp only [Option.map_some, Option.getD_some]
    have := h _ (List.getElem_mem hi)
    rw [UInt8.toNat_ofNat']; omega
  · rw [List.getElem?_eq_none (by omega)]; rfl
theorem str_cut (l : List Int) (a b : Nat) : (strOfNums l).extract a b = strOfNums ((l.take b).drop a) := by
  apply toList_inj
  rw [toList_data, toList_data, strOfNums_data, ByteArray.data_extract, Array.toList_extract, List.extract_eq_take_drop, strOfNums_data, List.map_drop, List.map_take, List.drop_take]
theorem str_size (l : List Int) : (strOfNums l).size = l.length := strOfNums_size l

/-! ### the number of a row of bytes, high byte first -/
def num (l : List Int) : Int := l.foldl (fun n c => n * 256 + c) 0
theorem num_snoc (l : List Int) (c : Int) : num (l ++ [c]) = num l * 256 + c := by simp [num]
theorem num_take (l : List Int) (i : Nat) (h : i < l.length) : num (l.take (i + 1)) = num (l.take i) * 256 + l[i] := by
  rw [List.take_succ_eq_append_getElem h, num_snoc]
theorem num_0 {l : List Int} (h : Bytes l) : ∀ i, i ≤ l.length → 0 ≤ num (l.take i) ∧ num (l.take i) < 256 ^ i := by
  intro i
  induction i with
  | zero => intro _; rw [List.take_zero]; exact ⟨by decide, by decide⟩
  | succ i ih =>
    intro hi
    have h1 := ih (by omega)
    have h2 := h _ (List.getElem_mem (show i < l.length by omega))
    rw [num_take l i (by omega), Int.pow_succ]
    omega
theorem num_6 {l : List Int} (h : Bytes l) (i : Nat) (hi : i ≤ l.length) (h7 : i ≤ 6) : 0 ≤ num (l.take i) ∧ num (l.take i) < 281474976710656 := by
  have h1 := num_0 h i hi
  rcases (show i = 0 ∨ i = 1 ∨ i = 2 ∨ i = 3 ∨ i = 4 ∨ i = 5 ∨ i = 6 by omega) with e | e | e | e | e | e | e <;> rw [e] at h1 ⊢ <;> omega
theorem num_lt {l : List Int} (h : Bytes l) (n : Nat) (hn : l.length = n) : 0 ≤ num l ∧ num l < 256 ^ n := by
  have := num_0 h l.length (Nat.le_refl _)
  rw [List.take_length] at this; rw [hn] at this; exact this

/-! ### a row compared with itself -/
theorem eqByteS_l0 (l : List Int) (hl : l.length ≤ 1048576) (d : Nat) : ∀ (i : Nat), i + d = l.length → Ev (fun k => laws_eqByteS.l0 k l l (i : Int)) true := by
  induction d with
  | zero =>
    intro i hi
    refine Ev.step (f := fun _ => some true) (fun k => ?_) (Ev.now _)
    simp only [laws_eqByteS.l0]; rw [if_neg (by omega)]
  | succ d ih =>
    intro i hi
    have hw : wrap64 ((i : Int) + 1) = ((i + 1 : Nat) : Int) := by rw [wrap64_id (by omega) (by omega)]; omega
    refine Ev.step (f := fun k => laws_eqByteS.l0 k l l ((i + 1 : Nat) : Int)) (fun k => ?_) (ih (i + 1) (by omega))
    simp only [laws_eqByteS.l0, hw]; rw [if_pos (by omega), if_pos (by omega), if_pos (by omega), if_pos trivial]
theorem eqByteS_ev (l : List Int) (hl : l.length ≤ 1048576) : Ev (fun k => laws_eqByteS.f k l l) true := by
  refine Ev.congr (f := fun k => laws_eqByteS.l0 k l l ((0 : Nat) : Int)) (fun k => ?_) (eqByteS_l0 l hl l.length 0 (by omega))
  unfold laws_eqByteS.f
  rw [if_pos rfl]; rfl

/-! ### the marks that a law sets into a row, and finds there -/
def marks (n : Nat) : List Int := (List.range n).map fun (j : Nat) => (1 + (j : Int)) % 256
theorem marks_length (n : Nat) : (marks n).length = n := by simp [marks]
theorem marks_at (n i : Nat) (h : i < n) : (marks n)[i]? = some ((1 + (i : Int)) % 256) := by
  simp [marks, h]
theorem mark_l0 (d : Nat) : ∀ (i : Nat) (x : List Int), i + d = x.length → x.length ≤ 1000000000 → (∀ j : Nat, j < i → x[j]? = some ((1 + (j : Int)) % 256)) → Ev (fun k => laws_markByteS.l0 k x (1 + (i : Int)) (i : Int)) (1 + (x.length : Int), marks x.length) := by
  induction d with
  | zero =>
    intro i x hi hn hj
    have e : x = marks x.length := by
      apply List.ext_getElem?
      intro j
      by_cases h : j < i
      · rw [hj j h, marks_at _ j (by omega)]
      · rw [List.getElem?_eq_none (by omega), List.getElem?_eq_none (by rw [marks_length]; omega)]
    refine Ev.step (f := fun _ => some (1 + (x.length : Int), marks x.length)) (fun k => ?_) (Ev.now _)
    simp only [laws_markByteS.l0]; rw [if_neg (by omega), ← e, show (i : Int) = x.length by omega]
  | succ d ih =>
    intro i x hi hn hj
    have w1 : wrap64 ((i : Int) + 1) = ((i + 1 : Nat) : Int) := by rw [wrap64_id (by omega) (by omega)]; omega
    have w2 : wrap64 (1 + (i : Int) + 1) = 1 + ((i + 1 : Nat) : Int) := by rw [wrap64_id (by omega) (by omega)]; omega
    have h := ih (i + 1) (x.set i ((1 + (i : Int)) % 256)) (by simp; omega) (by simpa using hn) (fun j hji => ?_)
    · rw [List.length_set] at h
      refine Ev.step (fun k => ?_) h
      simp only [laws_markByteS.l0, w1, w2]; rw [if_pos (by omega), if_pos (by omega)]; rfl
    · by_cases hq : j = i
      · subst hq; rw [List.getElem?_set_self (by omega)]
      · rw [List.getElem?_set_ne (by omega)]; exact hj j (by omega)
theorem mark_ev (x : List Int) (hn : x.length ≤ 1000000000) : Ev (fun k => laws_markByteS.f k x 1) (1 + (x.length : Int), marks x.length) :=
  Ev.congr (fun k => rfl) (mark_l0 x.length 0 x (by omega) hn (fun j hj => by omega))
theorem held_l0 (n : Nat) (hn : n ≤ 1000000000) (d : Nat) : ∀ (i : Nat), i + d = n → Ev (fun k => laws_heldByteS.l0 k (marks n) (1 + (i : Int)) (i : Int)) (1 + (n : Int)) := by
  induction d with
  | zero =>
    intro i hi
    refine Ev.step (f := fun _ => some (1 + (n : Int))) (fun k => ?_) (Ev.now _)
    simp only [laws_heldByteS.l0, marks_length]; rw [if_neg (by omega), show (i : Int) = n by omega]
  | succ d ih =>
    intro i hi
    have w1 : wrap64 ((i : Int) + 1) = ((i + 1 : Nat) : Int) := by rw [wrap64_id (by omega) (by omega)]; omega
    have w2 : wrap64 (1 + (i : Int) + 1) = 1 + ((i + 1 : Nat) : Int) := by rw [wrap64_id (by omega) (by omega)]; omega
    have hr : rd (marks n) (i : Int) = (1 + (i : Int)) % 256 := by rw [rd_nat, List.getD_eq_getElem?_getD, marks_at n i (by omega)]; rfl
    refine Ev.step (fun k => ?_) (ih (i + 1) (by omega))
    simp only [laws_heldByteS.l0, marks_length, w1, w2, hr]; rw [if_pos (by omega), if_pos (by omega), if_pos trivial]
theorem held_ev (n : Nat) (hn : n ≤ 1000000000) : Ev (fun k => laws_heldByteS.f k (marks n) 1) (1 + (n : Int)) :=
  Ev.congr (fun k => rfl) (held_l0 n hn n 0 (by omega))

/-! ### the bytes of a number, high byte first -/
def beL (a : Int) : Nat → List Int
  | 0 => []
  | m + 1 => (a / 2 ^ (8 * m)) % 256 :: beL a m
theorem beL_length (a : Int) (m : Nat) : (beL a m).length = m := by
  induction m with
  | zero => rfl
  | succ m ih => simp [beL, ih]
theorem beL_bytes (a : Int) (m : Nat) : Bytes (beL a m) := by
  induction m with
  | zero => intro x hx; simp [beL] at hx
  | succ m ih =>
    intro x hx
    simp only [beL, List.mem_cons] at hx
    rcases hx with rfl | hx
    · exact ⟨Int.emod_nonneg _ (by decide), Int.emod_lt_of_pos _ (by decide)⟩
    · exact ih x hx
theorem bytesOf_str {l : List Int} (h : Bytes l) : bytesOf (strOfNums l) = l := by
  unfold bytesOf
  rw [strOfNums_data, List.map_map]
  conv => rhs; rw [← List.map_id l]
  apply List.map_congr_left
  intro x hx
  have := h x hx
  simp only [Function.comp, UInt8.toNat_ofNat', id]; omega
theorem str_app (x y : List Int) : strOfNums x ++ strOfNums y = strOfNums (x ++ y) := by
  apply toList_inj
  rw [toList_data, toList_data, ByteArray.data_append, Array.toList_append, strOfNums_data, strOfNums_data, strOfNums_data, List.map_append]
theorem shr_at (a : Int) (i : Nat) (h : i ≤ 7) : shr .i64 a ((8 * i : Nat) : Int) = a / 2 ^ (8 * i) := by
  show a / 2 ^ min (((8 * i : Nat) : Int)).toNat 64 = _
  rw [Int.toNat_natCast, Nat.min_eq_left (by omega)]
theorem w8 (i : Nat) (h : i ≤ 7) : wrap64 (8 * (i : Int)) = ((8 * i : Nat) : Int) := by rw [wrap64_id (by omega) (by omega)]; omega
theorem spec_number_l0 (a : Int) (m : Nat) : ∀ acc : List Int, m ≤ 8 → acc.length + m ≤ 1000 → Ev (fun k => spec_l01Number.l0 k a acc ((m : Int) - 1)) (strOfNums (acc ++ beL a m)) := by
  induction m with
  | zero =>
    intro acc _ _
    refine Ev.step (f := fun _ => some (strOfNums (acc ++ beL a 0))) (fun k => ?_) (Ev.now _)
    simp only [spec_l01Number.l0]; rw [if_neg (by omega), beL, List.append_nil]
  | succ m ih =>
    intro acc hm ha
    have e : ((m + 1 : Nat) : Int) - 1 = (m : Int) := by omega
    have u : IntKind.u64.wrap ((8 * m : Nat) : Int) = ((8 * m : Nat) : Int) := by rw [wrap_u64]; omega
    have w : wrap64 ((m : Int) - 1) = (m : Int) - 1 := wrap64_id (by omega) (by omega)
    have h := ih (acc ++ [(a / 2 ^ (8 * m)) % 256]) (by omega) (by simp; omega)
    rw [List.append_assoc] at h
    refine Ev.step (fun k => ?_) h
    simp only [spec_l01Number.l0, e, w8 m (by omega), u, w, shr_at a m (by omega)]
    rw [if_pos (by omega), if_pos (by omega), if_pos (by omega)]
theorem spec_number_ev (a : Int) (n : Nat) (hn : n ≤ 8) : Ev (fun k => spec_l01Number.f k a (n : Int)) (strOfNums (beL a n)) := by
  refine Ev.congr (fun k => ?_) (spec_number_l0 a n [] hn (by simp; omega))
  unfold spec_l01Number.f
  rw [wrap64_id (by omega) (by omega)]
theorem impl_be_l0 (a : Int) (n : Nat) (hn : n ≤ 8) (d : Nat) : ∀ i : Nat, i + d = n → Ev (fun k => impl_be.l0 k a (n : Int) (List.replicate (n - i) 0 ++ beL a i) (n : Int) (i : Int)) (beL a n) := by
  induction d with
  | zero =>
    intro i hi
    have : i = n := by omega
    subst this
    refine Ev.step (f := fun _ => some (beL a i)) (fun k => ?_) (Ev.now _)
    simp only [impl_be.l0]; rw [if_neg (by omega), Nat.sub_self]; rfl
  | succ d ih =>
    intro i hi
    have w1 : wrap64 ((i : Int) + 1) = ((i + 1 : Nat) : Int) := by rw [wrap64_id (by omega) (by omega)]; omega
    have w2 : wrap64 (wrap64 ((n : Int) - 1) - (i : Int)) = ((n - 1 - i : Nat) : Int) := by
      rw [wrap64_id (x := (n : Int) - 1) (by omega) (by omega), wrap64_id (by omega) (by omega)]; omega
    have hlen : (List.replicate (n - i) 0 ++ beL a i).length = n := by rw [List.length_append, List.length_replicate, beL_length]; omega
    have hset : (List.replicate (n - i) 0 ++ beL a i).set (n - 1 - i) ((a / 2 ^ (8 * i)) % 256) = List.replicate (n - (i + 1)) 0 ++ beL a (i + 1) := by
      have e : n - i = (n - (i + 1)) + 1 := by omega
      have e2 : n - 1 - i = n - (i + 1) := by omega
      rw [e, List.replicate_succ', List.append_assoc, e2, List.set_append_right _ _ (by simp), List.length_replicate, Nat.sub_self]
      rfl
    refine Ev.step (fun k => ?_) (ih (i + 1) (by omega))
    simp only [impl_be.l0, w8 i (by omega), w1, w2, shr_at a i (by omega), hlen, Int.toNat_natCast, hset]
    rw [if_pos (by omega), if_pos (by omega), if_pos (by omega), if_pos (by omega)]
theorem impl_be_ev (a : Int) (n : Nat) (hn : n ≤ 8) : Ev (fun k => impl_be.f k a (n : Int)) (beL a n) := by
  refine Ev.congr (fun k => ?_) (impl_be_l0 a n hn n 0 (by omega))
  unfold impl_be.f
  rw [if_pos (by omega), if_pos (by omega), Option.bind_some, Int.toNat_natCast, List.length_replicate, beL, List.append_nil]; rfl

/-! ### rows laid one behind the other -/
theorem bytesOf_app (x y : ByteArray) : bytesOf (x ++ y) = bytesOf x ++ bytesOf y := by
  unfold bytesOf; rw [ByteArray.data_append, Array.toList_append, List.map_append]
theorem bytesOf_len (x : ByteArray) : (bytesOf x).length = x.size := bytesOf_length x
theorem size_app (x y : ByteArray) : (x ++ y).size = x.size + y.size := ByteArray.size_append
theorem flat_take (ls : List (List Int)) (i : Nat) (h : i < ls.length) : (ls.take (i + 1)).flatten = (ls.take i).flatten ++ ls[i] := by
  rw [List.take_succ_eq_append_getElem h, List.flatten_append, List.flatten_cons, List.flatten_nil, List.append_nil]
theorem flat_le (ls : List (List Int)) (i : Nat) : (ls.take i).flatten.length ≤ ls.flatten.length := by
  conv => rhs; rw [← List.take_append_drop i ls]
  rw [List.flatten_append, List.length_append]; omega
theorem rdL_at (ls : List (List Int)) (i : Nat) (h : i < ls.length) : rd_L1 ls (i : Int) = ls[i] := by
  simp [rd_L1, List.getD_eq_getElem?_getD, h]
theorem concat_l1 (ls : List (List Int)) (hn : ls.length ≤ 1000) (ht : ls.flatten.length ≤ 100000000) (d : Nat) : ∀ i : Nat, i + d = ls.length → Ev (fun k => slices_Concat_byte_byte.l1 k (ls.take i).flatten ls (ls.length : Int) (i : Int)) ls.flatten := by
  induction d with
  | zero =>
    intro i hi
    refine Ev.step (f := fun _ => some ls.flatten) (fun k => ?_) (Ev.now _)
    simp only [slices_Concat_byte_byte.l1]; rw [if_neg (by omega), List.take_of_length_le (by omega)]
  | succ d ih =>
    intro i hi
    have w1 : wrap64 ((i : Int) + 1) = ((i + 1 : Nat) : Int) := by rw [wrap64_id (by omega) (by omega)]; omega
    have h := flat_take ls i (by omega)
    have h2 := flat_le ls (i + 1)
    rw [h, List.length_append] at h2
    refine Ev.step (fun k => ?_) (ih (i + 1) (by omega))
    simp only [slices_Concat_byte_byte.l1, w1, rdL_at ls i (by omega), h]
    rw [if_pos (by omega), if_pos (by omega), if_pos (by omega), if_pos (by omega)]
theorem concat_l0 (ls : List (List Int)) (hn : ls.length ≤ 1000) (ht : ls.flatten.length ≤ 100000000) (d : Nat) : ∀ i : Nat, i + d = ls.length → Ev (fun k => slices_Concat_byte_byte.l0 k ls (((ls.take i).flatten.length : Nat) : Int) ls (ls.length : Int) (i : Int)) ls.flatten := by
  induction d with
  | zero =>
    intro i hi
    have h2 := flat_le ls i
    refine Ev.step (f := fun k => slices_Concat_byte_byte.l1 k [] ls (ls.length : Int) 0) (fun k => ?_) (Ev.congr (fun k => rfl) (concat_l1 ls hn ht ls.length 0 (by omega)))
    simp only [slices_Concat_byte_byte.l0, slices_Grow_byte_byte.f]
    rw [if_neg (by omega), if_pos (show ([] : List Int).length = 0 from rfl), if_pos (by omega), if_pos (by omega), Option.bind_some]
  | succ d ih =>
    intro i hi
    have w1 : wrap64 ((i : Int) + 1) = ((i + 1 : Nat) : Int) := by rw [wrap64_id (by omega) (by omega)]; omega
    have h := flat_take ls i (by omega)
    have h2 := flat_le ls (i + 1)
    rw [h, List.length_append] at h2
    have w2 : wrap64 (((ls.take i).flatten.length : Nat) + (ls[i].length : Int)) = (((ls.take (i + 1)).flatten.length : Nat) : Int) := by rw [h, List.length_append, wrap64_id (by omega) (by omega)]; omega
    refine Ev.step (fun k => ?_) (ih (i + 1) (by omega))
    simp only [slices_Concat_byte_byte.l0, w1, rdL_at ls i (by omega), w2]
    rw [if_pos (by omega), if_pos (by omega), if_pos (by omega), if_neg (by omega)]
theorem concat_ev (ls : List (List Int)) (hn : ls.length ≤ 1000) (ht : ls.flatten.length ≤ 100000000) : Ev (fun k => slices_Concat_byte_byte.f k ls) ls.flatten :=
  Ev.congr (fun k => rfl) (concat_l0 ls hn ht ls.length 0 (by omega))

/-! ### the sum of words of 16 bits: one number to both -/
theorem sum_l1 (n : Nat) : ∀ c : Int, c.toNat ≤ n → 0 ≤ c → c < 4611686018427387904 → ∃ r, 0 ≤ r ∧ r ≤ 65535 ∧ Ev (fun k => spec_l01Sum16.l1 k c) r ∧ Ev (fun k => impl_sum16.l1 k c) r := by
  induction n with
  | zero =>
    intro c h1 h2 h3
    have : c = 0 := by omega
    subst this
    refine ⟨65535, by omega, by omega, Ev.step (fun k => ?_) (Ev.now _), Ev.step (fun k => ?_) (Ev.now _)⟩
    · simp only [spec_l01Sum16.l1]; rw [if_neg (by omega), wrap64_id (by omega) (by omega)]; rfl
    · simp only [impl_sum16.l1]; rw [if_neg (by omega), wrap64_id (by omega) (by omega)]; rfl
  | succ n ih =>
    intro c h1 h2 h3
    by_cases h : c > 65535
    · have e : wrap64 (Int.tmod c 65536 + wrap64 (Int.tdiv c 65536)) = c % 65536 + c / 65536 := by
        rw [Int.tmod_eq_emod_of_nonneg h2, Int.tdiv_eq_ediv_of_nonneg h2, wrap64_id (x := c / 65536) (by omega) (by omega), wrap64_id (by omega) (by omega)]
      obtain ⟨r, r0, r1, hS, hI⟩ := ih (c % 65536 + c / 65536) (by omega) (by omega) (by omega)
      refine ⟨r, r0, r1, Ev.step (fun k => ?_) hS, Ev.step (fun k => ?_) hI⟩
      · simp only [spec_l01Sum16.l1]; rw [if_pos h, e]
      · simp only [impl_sum16.l1]; rw [if_pos (by omega), e]
    · refine ⟨65535 - c, by omega, by omega, Ev.step (fun k => ?_) (Ev.now _), Ev.step (fun k => ?_) (Ev.now _)⟩
      · simp only [spec_l01Sum16.l1]; rw [if_neg h, wrap64_id (by omega) (by omega)]
      · simp only [impl_sum16.l1]; rw [if_neg (by omega), wrap64_id (by omega) (by omega)]
theorem sum_l0 (l : List Int) (hB : Bytes l) (hl : l.length ≤ 1048576) (d : Nat) : ∀ (i : Nat) (c : Int), i + d = l.length → 0 ≤ c → c ≤ 65280 * i → ∃ r, 0 ≤ r ∧ r ≤ 65535 ∧ Ev (fun k => spec_l01Sum16.l0 k (strOfNums l) c (i : Int)) r ∧ Ev (fun k => impl_sum16.l0 k c l (l.length : Int) (i : Int)) r := by
  induction d with
  | zero =>
    intro i c hi h0 h1
    obtain ⟨r, r0, r1, hS, hI⟩ := sum_l1 c.toNat c (Nat.le_refl _) h0 (by omega)
    refine ⟨r, r0, r1, Ev.step (fun k => ?_) hS, Ev.step (fun k => ?_) hI⟩
    · simp only [spec_l01Sum16.l0]; rw [if_neg (by rw [str_size]; omega)]
    · simp only [impl_sum16.l0]; rw [if_neg (by omega)]
  | succ d ih =>
    intro i c hi h0 h1
    have hw : wrap64 ((i : Int) + 1) = ((i + 1 : Nat) : Int) := by rw [wrap64_id (by omega) (by omega)]; omega
    have hb := rd_byte hB i
    have hm : Int.tmod (i : Int) 2 = ((i % 2 : Nat) : Int) := by rw [Int.tmod_eq_emod_of_nonneg (by omega)]; omega
    have w1 : wrap64 (rd l (i : Int)) = rd l i := wrap64_id (by omega) (by omega)
    by_cases he : i % 2 = 0
    · obtain ⟨r, r0, r1, hS, hI⟩ := ih (i + 1) (c + 256 * rd l i) (by omega) (by omega) (by omega)
      refine ⟨r, r0, r1, Ev.step (fun k => ?_) hS, Ev.step (fun k => ?_) hI⟩
      · simp only [spec_l01Sum16.l0, hw, hm, str_bt hB, w1]
        rw [if_pos (by rw [str_size]; omega), if_pos (by omega), if_pos (by omega), wrap64_id (x := 256 * rd l i) (by omega) (by omega), wrap64_id (by omega) (by omega)]
      · simp only [impl_sum16.l0, hw, hm, w1]
        rw [if_pos (by omega), if_pos (by omega), if_pos (by omega), if_pos (by omega), wrap64_id (x := rd l i * 256) (by omega) (by omega), wrap64_id (by omega) (by omega), Int.mul_comm]
    · obtain ⟨r, r0, r1, hS, hI⟩ := ih (i + 1) (c + rd l i) (by omega) (by omega) (by omega)
      refine ⟨r, r0, r1, Ev.step (fun k => ?_) hS, Ev.step (fun k => ?_) hI⟩
      · simp only [spec_l01Sum16.l0, hw, hm, str_bt hB, w1]
        rw [if_pos (by rw [str_size]; omega), if_neg (by omega), if_pos (by omega), wrap64_id (by omega) (by omega)]
      · simp only [impl_sum16.l0, hw, hm, w1]
        rw [if_pos (by omega), if_pos (by omega), if_pos (by omega), if_neg (by omega), wrap64_id (by omega) (by omega)]
theorem sum_ev (l : List Int) (hB : Bytes l) (hl : l.length ≤ 1048576) : ∃ r, 0 ≤ r ∧ r ≤ 65535 ∧ Ev (fun k => spec_l01Sum16.f k (strOfNums l)) r ∧ Ev (fun k => impl_sum16.f k l) r :=
  sum_l0 l hB hl l.length 0 0 (by omega) (by omega) (by omega)

/-! ### a string's bytes make the string -/
theorem str_bytesOf (a : ByteArray) : strOfNums (bytesOf a) = a := by
  apply toList_inj
  rw [toList_data, toList_data, strOfNums_data]
  unfold bytesOf
  rw [List.map_map]
  conv => rhs; rw [← List.map_id a.data.toList]
  apply List.map_congr_left
  intro x _
  simp [Function.comp]
theorem bytesOf_bytes (a : ByteArray) : Bytes (bytesOf a) := by
  intro x hx
  unfold bytesOf at hx
  obtain ⟨y, _, rfl⟩ := List.mem_map.1 hx
  have := y.toNat_lt
  exact ⟨by omega, by omega⟩
theorem beL_two (a : Int) : ∃ x y, beL a 2 = [x, y] := ⟨_, _, rfl⟩
theorem beL_four (a : Int) : ∃ x y z u, beL a 4 = [x, y, z, u] := ⟨_, _, _, _, rfl⟩
/-! ### tests of what is right, one behind the other -/
theorem some_ite (c q : Bool) : (if c = true then some q else some false) = some (c && q) := by cases c <;> rfl
theorem in_spec (a l h : Int) : spec_l01In.f a l h = some (decide (l ≤ a ∧ a ≤ h)) := by
  unfold spec_l01In.f
  by_cases h1 : l ≤ a <;> simp [h1]
theorem in_impl (a l h : Int) : impl_within.f a l h = some (decide (l ≤ a ∧ a ≤ h)) := by
  unfold impl_within.f
  by_cases h1 : l ≤ a <;> simp [h1]
-- SAYS: PacketBytes: a right packet is the same row to both, with the sum of its head; what is not right is refused alike; the program's row is its caller's own.
-- USES: Bytes Eq Mark Be Concat Sum Str Ok
theorem bytes_append {x y : List Int} (hx : Bytes x) (hy : Bytes y) : Bytes (x ++ y) := fun z hz => by
  rcases List.mem_append.1 hz with h | h
  · exact hx z h
  · exact hy z h
theorem beL_one (a : Int) (h0 : 0 ≤ a) (h1 : a < 256) : beL a 1 = [a] := by
  show [a / 2 ^ (8 * 0) % 256] = [a]
  rw [show (2 : Int) ^ (8 * 0) = 1 from rfl, Int.ediv_one, Int.emod_eq_of_lt h0 h1]
def pkL (n i t p c a b : Int) : List Int := [69, 0] ++ (beL n 2 ++ (beL i 2 ++ ([0, 0] ++ (beL t 1 ++ (beL p 1 ++ (beL c 2 ++ (beL a 4 ++ beL b 4)))))))
theorem pkL_length (n i t p c a b : Int) : (pkL n i t p c a b).length = 20 := by unfold pkL; simp only [List.length_append, beL_length, List.length_cons, List.length_nil]
theorem pkL_bytes (n i t p c a b : Int) : Bytes (pkL n i t p c a b) := by
  have h1 : Bytes [69, 0] := fun x hx => by simp at hx; omega
  have h2 : Bytes [0, 0] := fun x hx => by simp at hx; omega
  exact bytes_append h1 (bytes_append (beL_bytes _ _) (bytes_append (beL_bytes _ _) (bytes_append h2 (bytes_append (beL_bytes _ _) (bytes_append (beL_bytes _ _) (bytes_append (beL_bytes _ _) (bytes_append (beL_bytes _ _) (beL_bytes _ _))))))))
theorem pkL_set (n i t p c a b : Int) : (pkL n i t p 0 a b).take 10 ++ beL c 2 ++ (pkL n i t p 0 a b).drop 12 = pkL n i t p c a b := by
  unfold pkL
  obtain ⟨a1, a2, ha⟩ := beL_two n
  obtain ⟨b1, b2, hb⟩ := beL_two i
  obtain ⟨e1, e2, he⟩ := beL_two 0
  have ht : beL t 1 = [t / 2 ^ (8 * 0) % 256] := rfl
  have hp : beL p 1 = [p / 2 ^ (8 * 0) % 256] := rfl
  rw [ha, hb, he, ht, hp]
  simp
theorem pk_str (n i t p c a b : Int) : ((((((((⟨#[69, 0]⟩ : ByteArray) ++ strOfNums (beL n 2)) ++ strOfNums (beL i 2)) ++ (⟨#[0, 0]⟩ : ByteArray)) ++ strOfNums (beL t 1)) ++ strOfNums (beL p 1)) ++ strOfNums (beL c 2)) ++ (strOfNums (beL a 4) ++ strOfNums (beL b 4))) = strOfNums (pkL n i t p c a b) := by
  have e0 : (⟨#[0, 0]⟩ : ByteArray) = strOfNums [0, 0] := by decide +kernel
  have e1 : (⟨#[69, 0]⟩ : ByteArray) = strOfNums [69, 0] := by decide +kernel
  rw [e0, e1]
  unfold pkL
  simp only [str_app, List.append_assoc]
theorem packet (a b p t i : Int) (d : ByteArray) (hp : 0 ≤ p ∧ p ≤ 255) (ht : 0 ≤ t ∧ t ≤ 255) (hd : d.size ≤ 380) : ∃ L : List Int, L.length = 20 + d.size ∧ Bytes L ∧ Ev (fun k => spec_l02PacketBytes.f k a b p t i d) (strOfNums L) ∧ Ev (fun k => impl_packetBytes.f k a b p t i d) L := by
  have hw : wrap64 (20 + (d.size : Int)) = ((20 + d.size : Nat) : Int) := by rw [wrap64_id (by omega) (by omega)]; omega
  have z : ∀ a m, (strOfNums (beL a m)).size = m := fun a m => by rw [str_size, beL_length]
  have z0 : (⟨#[0, 0]⟩ : ByteArray).size = 2 := rfl
  have z1 : (⟨#[69, 0]⟩ : ByteArray).size = 2 := rfl
  have hbl : (bytesOf d).length = d.size := bytesOf_len d
  have e0 : (⟨#[0, 0]⟩ : ByteArray) = strOfNums (beL 0 2) := by decide +kernel
  generalize ((20 + d.size : Nat) : Int) = n at hw
  obtain ⟨r, r0, r1, hS, hI⟩ := sum_ev (pkL n i t p 0 a b) (pkL_bytes _ _ _ _ _ _ _) (by rw [pkL_length]; omega)
  refine ⟨pkL n i t p r a b ++ bytesOf d, by rw [List.length_append, pkL_length, hbl], bytes_append (pkL_bytes _ _ _ _ _ _ _) (bytesOf_bytes d), ?_, ?_⟩
  · refine Ev.congr (fun k => by unfold spec_l02PacketBytes.f; rw [hw]) ?_
    refine Ev.bind (spec_number_ev n 2 (by omega)) ?_
    refine Ev.congr (fun k => by rw [if_pos (by rw [z]; omega)]) ?_
    refine Ev.bind (spec_number_ev i 2 (by omega)) ?_
    refine Ev.congr (fun k => by rw [if_pos (by simp only [size_app, z, z1]; omega), if_pos (by simp only [size_app, z, z1]; omega)]) ?_
    refine Ev.bind (spec_number_ev t 1 (by omega)) ?_
    refine Ev.congr (fun k => by rw [if_pos (by simp only [size_app, z, z1, z0]; omega)]) ?_
    refine Ev.bind (spec_number_ev p 1 (by omega)) ?_
    refine Ev.congr (fun k => by rw [if_pos (by simp only [size_app, z, z1, z0]; omega)]) ?_
    refine Ev.bind (spec_number_ev a 4 (by omega)) (Ev.bind (spec_number_ev b 4 (by omega)) ?_)
    refine Ev.congr (fun k => by rw [if_pos (by simp only [z]; omega), if_pos (by simp only [size_app, z, z1, z0]; omega), if_pos (by simp only [size_app, z, z1, z0]; omega), show (((((((⟨#[69, 0]⟩ : ByteArray) ++ strOfNums (beL n 2)) ++ strOfNums (beL i 2)) ++ (⟨#[0, 0]⟩ : ByteArray)) ++ strOfNums (beL t 1)) ++ strOfNums (beL p 1)) ++ (⟨#[0, 0]⟩ : ByteArray)) ++ (strOfNums (beL a 4) ++ strOfNums (beL b 4)) = strOfNums (pkL n i t p 0 a b) by rw [← pk_str, ← e0]]) ?_
    refine Ev.bind hS ?_
    refine Ev.bind (spec_number_ev r 2 (by omega)) ?_
    refine Ev.congr (fun k => by rw [if_pos (by simp only [size_app, z, z1, z0]; omega), if_pos (by simp only [size_app, z, z1, z0]; omega), if_pos (by simp only [size_app, z, z1, z0]; omega), pk_str, ← str_app, str_bytesOf]) (Ev.now _)
  · refine Ev.congr (fun k => by unfold impl_packetBytes.f; rw [hw]) ?_
    refine Ev.bind (impl_be_ev n 2 (by omega)) (Ev.bind (impl_be_ev i 2 (by omega)) (Ev.bind (impl_be_ev a 4 (by omega)) (Ev.bind (impl_be_ev b 4 (by omega)) ?_)))
    have hF : ([[69, 0], beL n 2, beL i 2, [0, 0, t % 256, p % 256, 0, 0], beL a 4, beL b 4] : List (List Int)).flatten = pkL n i t p 0 a b := by
      unfold pkL; rw [beL_one t (by omega) (by omega), beL_one p (by omega) (by omega), Int.emod_eq_of_lt (by omega) (by omega), Int.emod_eq_of_lt (by omega) (by omega), show beL 0 2 = [0, 0] from rfl]; simp
    refine Ev.bind (concat_ev _ (by simp) (by rw [hF, pkL_length]; omega)) ?_
    rw [hF]
    refine Ev.congr (fun k => by rw [if_pos (by rw [pkL_length]; omega)]) ?_
    refine Ev.bind hI ?_
    refine Ev.bind (impl_be_ev r 2 (by omega)) ?_
    have hc : (10 : Int).toNat + (beL r 2).length = 12 := by rw [beL_length]; rfl
    have h6 : (10 : Int).toNat = 10 := rfl
    refine Ev.congr (fun k => by rw [hc, h6, if_pos (by rw [pkL_length]; omega), Option.bind_some, pkL_set, if_pos (by rw [pkL_length]; omega)]) (Ev.now _)
theorem spec_packet_ok (a b p t i : Int) (d : ByteArray) : spec_l02Packet.f a b p t i d = some (decide ((0 ≤ a ∧ a ≤ 4294967295) ∧ (0 ≤ b ∧ b ≤ 4294967295) ∧ (0 ≤ p ∧ p ≤ 255) ∧ (0 ≤ t ∧ t ≤ 255) ∧ (0 ≤ i ∧ i ≤ 65535) ∧ (d.size : Int) ≤ 380)) := by
  simp only [spec_l02Packet.f, spec_l01Ip.f, in_spec, Option.bind_some, some_ite, ← Bool.decide_and]
theorem impl_packet_ok (a b p t i : Int) (d : ByteArray) : impl_packetOK.f a b p t i d = some (decide ((0 ≤ a ∧ a ≤ 4294967295) ∧ (0 ≤ b ∧ b ≤ 4294967295) ∧ (0 ≤ p ∧ p ≤ 255) ∧ (0 ≤ t ∧ t ≤ 255) ∧ (0 ≤ i ∧ i ≤ 65535) ∧ (d.size : Int) ≤ 380)) := by
  simp only [impl_packetOK.f, impl_isAddress.f, impl_isPort.f, in_impl, Option.bind_some, some_ite, ← Bool.decide_and]
theorem packetBytes (a b p t i : Int) (d : ByteArray) : ∃ r : List Int × Int, r.1.length ≤ 1000 ∧ Ev (fun k => spec_PacketBytes.f k a b p t i d) r ∧ Ev (fun k => impl_PacketBytes.f k a b p t i d) r := by
  have hS := spec_packet_ok a b p t i d
  have hI := impl_packet_ok a b p t i d
  by_cases h : (0 ≤ a ∧ a ≤ 4294967295) ∧ (0 ≤ b ∧ b ≤ 4294967295) ∧ (0 ≤ p ∧ p ≤ 255) ∧ (0 ≤ t ∧ t ≤ 255) ∧ (0 ≤ i ∧ i ≤ 65535) ∧ (d.size : Int) ≤ 380
  · rw [decide_eq_true h] at hS hI
    obtain ⟨L, hL, hB, sE, iE⟩ := packet a b p t i d h.2.2.1 h.2.2.2.1 (by omega)
    refine ⟨(L, 0), by show L.length ≤ 1000; omega, ?_, ?_⟩
    · refine Ev.congr (fun k => by unfold spec_PacketBytes.f; rw [hS, Option.bind_some, if_pos rfl]) ?_
      refine Ev.bind sE ?_
      refine Ev.congr (fun k => by rw [if_pos (by rw [str_size]; omega), bytesOf_str hB]) (Ev.now _)
    · refine Ev.congr (fun k => by unfold impl_PacketBytes.f; rw [hI, Option.bind_some, if_pos rfl]) ?_
      exact Ev.bind iE (Ev.now _)
  · rw [decide_eq_false h] at hS hI
    refine ⟨([], 1), by simp, Ev.congr (fun k => ?_) (Ev.now _), Ev.congr (fun k => ?_) (Ev.now _)⟩
    · unfold spec_PacketBytes.f; rw [hS, Option.bind_some, if_neg (by decide)]
    · unfold impl_PacketBytes.f; rw [hI, Option.bind_some, if_neg (by decide)]
theorem FnExactPacketBytes : laws_FnExactPacketBytes.Pure := by
  intro a b p t i d _ _ _ _ _ _
  apply Ev.rounds
  obtain ⟨v, hv⟩ : ∃ v, laws_szPacket.f a b p t i d 1048576 = some v := by
    unfold laws_szPacket.f; (repeat' split) <;> exact ⟨_, rfl⟩
  obtain ⟨⟨r1, r2⟩, hl, hS, hI⟩ := packetBytes a b p t i d
  replace hl : r1.length ≤ 1000 := hl
  have hE := eqByteS_ev r1 (by omega)
  by_cases h0 : v < 0
  · refine Ev.congr (fun k => ?_) (Ev.now true)
    unfold laws_FnExactPacketBytes.f; rw [hv, Option.bind_some, if_pos h0]
  refine Ev.congr (fun k => by unfold laws_FnExactPacketBytes.f laws_toPacket.f; rw [hv, Option.bind_some, if_neg h0, Option.bind_some]) ?_
  refine Ev.bind hS ?_
  refine Ev.congr (fun k => Option.bind_some _ _) ?_
  refine Ev.bind hI (Ev.bind hE ?_)
  simp only [if_true, bne_self_eq_false]
  refine Ev.step (fun k => by simp only [laws_FnExactPacketBytes.j0]; rw [if_neg (by decide)]) ?_
  refine Ev.bind (mark_ev r1 (by omega)) (Ev.bind (held_ev r1.length (by omega)) ?_)
  refine Ev.congr (fun k => by unfold laws_toPacket.f; rw [if_neg (by omega), if_pos rfl, Option.bind_some]) ?_
  refine Ev.bind hI (Ev.bind hE ?_)
  simp only [if_true, bne_self_eq_false]
  refine Ev.step (fun k => by simp only [laws_FnExactPacketBytes.j1]; rw [if_neg (by decide)]) ?_
  refine Ev.bind (held_ev r1.length (by omega)) ?_
  refine Ev.congr (fun k => by rw [if_neg (by omega), if_pos rfl]) (Ev.now _)

end Go.Proofs.Ythfhflgiblmooaa.Pure
