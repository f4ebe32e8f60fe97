/- DhcpBytes: a right message of leases is the same row to both; what is not right is refused alike; the program's row is its caller's own. -/
import Derived.Test.YthfhflgiblmooaaPDhx5
import Derived.Test.YthfhflgiblmooaaBase
set_option linter.unusedSimpArgs false
set_option linter.unusedVariables false
namespace Go.Proofs.Ythfhflgiblmooaa.Pure
open Go.RowKit Go.Proofs.Ythfhflgiblmooaa.PDh Go.Proofs.YthfhflgiblmooaaW.PrintWords Go.Proofs.YthfhflgiblmooaaW.PrintLast Go.Proofs.YthfhflgiblmooaaW.PrintMore Base

/-! ### rows of bytes and the strings of them -/
def Bytes (l : List Int) : Prop := ∀ x ∈ l, 0 ≤ x ∧ x < 256
theorem bytes_wf {l : List Int} (h : ∀ x ∈ l, (Lit.int .u8 x).wf = true) : Bytes l := fun x hx => wf_u8 (h x hx)
theorem bytes_take {l : List Int} (h : Bytes l) (n : Nat) : Bytes (l.take n) := fun x hx => h x (List.mem_of_mem_take hx)
theorem bytes_drop {l : List Int} (h : Bytes l) (n : Nat) : Bytes (l.drop n) := fun x hx => h x (List.mem_of_mem_drop hx)
theorem rd_nat (l : List Int) (i : Nat) : rd l (i : Int) = l.getD i 0 := by simp [rd]
theorem rd_at (l : List Int) (i : Nat) (h : i < l.length) : rd l (i : Int) = l[i] := by
  rw [rd_nat, List.getD_eq_getElem?_getD, List.getElem?_eq_getElem h]; rfl
theorem rd_byte {l : List Int} (h : Bytes l) (i : Nat) : 0 ≤ rd l (i : Int) ∧ rd l (i : Int) < 256 := by
  by_cases hi : i < l.length
  · rw [rd_at l i hi]; exact h _ (List.getElem_mem hi)
  · rw [rd_nat, List.getD_eq_getElem?_getD, List.getElem?_eq_none (by omega)]; simp
theorem str_bt {l : List Int} (h : Bytes l) (i : Nat) : bt (strOfNums l) (i : Int) = rd l (i : Int) := by
  rw [bt_nat, strOfNums_data, rd_nat, List.getD_eq_getElem?_getD, List.getD_eq_getElem?_getD, List.getElem?_map]
  by_cases hi : i < l.length
  · rw [List.getElem?_eq_getElem hi]
    simp only [Option.map_some, Option.getD_some]
    have := h _ (List.getElem_mem hi)
    rw [UInt8.toNat_ofNat']; omega
  · rw [List.getElem?_eq_none (by omega)]; rfl
theorem str_cut (l : List Int) (a b : Nat) : (strOfNums l).extract a b = strOfNums ((l.take b).drop a) := by
  apply toList_inj
  rw [toList_data, toList_data, strOfNums_data, ByteArray.data_extract, Array.toList_extract, List.extract_eq_take_drop, strOfNums_data, List.map_drop, List.map_take, List.drop_take]
theorem str_size (l : List Int) : (strOfNums l).size = l.length := strOfNums_size l

/-! ### the number of a row of bytes, high byte first -/
def num (l : List Int) : Int := l.foldl (fun n c => n * 256 + c) 0
theorem num_snoc (l : List Int) (c : Int) : num (l ++ [c]) = num l * 256 + c := by simp [num]
theorem num_take (l : List Int) (i : Nat) (h : i < l.length) : num (l.take (i + 1)) = num (l.take i) * 256 + l[i] := by
  rw [List.take_succ_eq_append_getElem h, num_snoc]
theorem num_0 {l : List Int} (h : Bytes l) : ∀ i, i ≤ l.length → 0 ≤ num (l.take i) ∧ num (l.take i) < 256 ^ i := by
  intro i
  induction i with
  | zero => intro _; rw [List.take_zero]; exact ⟨by decide, by decide⟩
  | succ i ih =>
    intro hi
    have h1 := ih (by omega)
    have h2 := h _ (List.getElem_mem (show i < l.length by omega))
    rw [num_take l i (by omega), Int.pow_succ]
    omega
theorem num_6 {l : List Int} (h : Bytes l) (i : Nat) (hi : i ≤ l.length) (h7 : i ≤ 6) : 0 ≤ num (l.take i) ∧ num (l.take i) < 281474976710656 := by
  have h1 := num_0 h i hi
  rcases (show i = 0 ∨ i = 1 ∨ i = 2 ∨ i = 3 ∨ i = 4 ∨ i = 5 ∨ i = 6 by omega) with e | e | e | e | e | e | e <;> rw [e] at h1 ⊢ <;> omega
theorem num_lt {l : List Int} (h : Bytes l) (n : Nat) (hn : l.length = n) : 0 ≤ num l ∧ num l < 256 ^ n := by
  have := num_0 h l.length (Nat.le_refl _)
  rw [List.take_length] at this; rw [hn] at this; exact this

/-! ### a row compared with itself -/
theorem eqByteS_l0 (l : List Int) (hl : l.length ≤ 1048576) (d : Nat) : ∀ (i : Nat), i + d = l.length → Ev (fun k => laws_eqByteS.l0 k l l (i : Int)) true := by
  induction d with
  | zero =>
    intro i hi
    refine Ev.step (f := fun _ => some true) (fun k => ?_) (Ev.now _)
    simp only [laws_eqByteS.l0]; rw [if_neg (by omega)]
  | succ d ih =>
    intro i hi
    have hw : wrap64 ((i : Int) + 1) = ((i + 1 : Nat) : Int) := by rw [wrap64_id (by omega) (by omega)]; omega
    refine Ev.step (f := fun k => laws_eqByteS.l0 k l l ((i + 1 : Nat) : Int)) (fun k => ?_) (ih (i + 1) (by omega))
    simp only [laws_eqByteS.l0, hw]; rw [if_pos (by omega), if_pos (by omega), if_pos (by omega), if_pos trivial]
theorem eqByteS_ev (l : List Int) (hl : l.length ≤ 1048576) : Ev (fun k => laws_eqByteS.f k l l) true := by
  refine Ev.congr (f := fun k => laws_eqByteS.l0 k l l ((0 : Nat) : Int)) (fun k => ?_) (eqByteS_l0 l hl l.length 0 (by omega))
  unfold laws_eqByteS.f
  rw [if_pos rfl]; rfl

/-! ### the marks that a law sets into a row, and finds there -/
def marks (n : Nat) : List Int := (List.range n).map fun (j : Nat) => (1 + (j : Int)) % 256
theorem marks_length (n : Nat) : (marks n).length = n := by simp [marks]
theorem marks_at (n i : Nat) (h : i < n) : (marks n)[i]? = some ((1 + (i : Int)) % 256) := by
  simp [marks, h]
theorem mark_l0 (d : Nat) : ∀ (i : Nat) (x : List Int), i + d = x.length → x.length ≤ 1000000000 → (∀ j : Nat, j < i → x[j]? = some ((1 + (j : Int)) % 256)) → Ev (fun k => laws_markByteS.l0 k x (1 + (i : Int)) (i : Int)) (1 + (x.length : Int), marks x.length) := by
  induction d with
  | zero =>
    intro i x hi hn hj
    have e : x = marks x.length := by
      apply List.ext_getElem?
      intro j
      by_cases h : j < i
      · rw [hj j h, marks_at _ j (by omega)]
      · rw [List.getElem?_eq_none (by omega), List.getElem?_eq_none (by rw [marks_length]; omega)]
    refine Ev.step (f := fun _ => some (1 + (x.length : Int), marks x.length)) (fun k => ?_) (Ev.now _)
    simp only [laws_markByteS.l0]; rw [if_neg (by omega), ← e, show (i : Int) = x.length by omega]
  | succ d ih =>
    intro i x hi hn hj
    have w1 : wrap64 ((i : Int) + 1) = ((i + 1 : Nat) : Int) := by rw [wrap64_id (by omega) (by omega)]; omega
    have w2 : wrap64 (1 + (i : Int) + 1) = 1 + ((i + 1 : Nat) : Int) := by rw [wrap64_id (by omega) (by omega)]; omega
    have h := ih (i + 1) (x.set i ((1 + (i : Int)) % 256)) (by simp; omega) (by simpa using hn) (fun j hji => ?_)
    · rw [List.length_set] at h
      refine Ev.step (fun k => ?_) h
      simp only [laws_markByteS.l0, w1, w2]; rw [if_pos (by omega), if_pos (by omega)]; rfl
    · by_cases hq : j = i
      · subst hq; rw [List.getElem?_set_self (by omega)]
      · rw [List.getElem?_set_ne (by omega)]; exact hj j (by omega)
theorem mark_ev (x : List Int) (hn : x.length ≤ 1000000000) : Ev (fun k => laws_markByteS.f k x 1) (1 + (x.length : Int), marks x.length) :=
  Ev.congr (fun k => rfl) (mark_l0 x.length 0 x (by omega) hn (fun j hj => by omega))
theorem held_l0 (n : Nat) (hn : n ≤ 1000000000) (d : Nat) : ∀ (i : Nat), i + d = n → Ev (fun k => laws_heldByteS.l0 k (marks n) (1 + (i : Int)) (i : Int)) (1 + (n : Int)) := by
  induction d with
  | zero =>
    intro i hi
    refine Ev.step (f := fun _ => some (1 + (n : Int))) (fun k => ?_) (Ev.now _)
    simp only [laws_heldByteS.l0, marks_length]; rw [if_neg (by omega), show (i : Int) = n by omega]
  | succ d ih =>
    intro i hi
    have w1 : wrap64 ((i : Int) + 1) = ((i + 1 : Nat) : Int) := by rw [wrap64_id (by omega) (by omega)]; omega
    have w2 : wrap64 (1 + (i : Int) + 1) = 1 + ((i + 1 : Nat) : Int) := by rw [wrap64_id (by omega) (by omega)]; omega
    have hr : rd (marks n) (i : Int) = (1 + (i : Int)) % 256 := by rw [rd_nat, List.getD_eq_getElem?_getD, marks_at n i (by omega)]; rfl
    refine Ev.step (fun k => ?_) (ih (i + 1) (by omega))
    simp only [laws_heldByteS.l0, marks_length, w1, w2, hr]; rw [if_pos (by omega), if_pos (by omega), if_pos trivial]
theorem held_ev (n : Nat) (hn : n ≤ 1000000000) : Ev (fun k => laws_heldByteS.f k (marks n) 1) (1 + (n : Int)) :=
  Ev.congr (fun k => rfl) (held_l0 n hn n 0 (by omega))

/-! ### the bytes of a number, high byte first -/
def beL (a : Int) : Nat → List Int
  | 0 => []
  | m + 1 => (a / 2 ^ (8 * m)) % 256 :: beL a m
theorem beL_length (a : Int) (m : Nat) : (beL a m).length = m := by
  induction m with
  | zero => rfl
  | succ m ih => simp [beL, ih]
theorem beL_bytes (a : Int) (m : Nat) : Bytes (beL a m) := by
  induction m with
  | zero => intro x hx; simp [beL] at hx
  | succ m ih =>
    intro x hx
    simp only [beL, List.mem_cons] at hx
    rcases hx with rfl | hx
    · exact ⟨Int.emod_nonneg _ (by decide), Int.emod_lt_of_pos _ (by decide)⟩
    · exact ih x hx
theorem bytesOf_str {l : List Int} (h : Bytes l) : bytesOf (strOfNums l) = l := by
  unfold bytesOf
  rw [strOfNums_data, List.map_map]
  conv => rhs; rw [← List.map_id l]
  apply List.map_congr_left
  intro x hx
  have := h x hx
  simp only [Function.comp, UInt8.toNat_ofNat', id]; omega
theorem str_app (x y : List Int) : strOfNums x ++ strOfNums y = strOfNums (x ++ y) := by
  apply toList_inj
  rw [toList_data, toList_data, ByteArray.data_append, Array.toList_append, strOfNums_data, strOfNums_data, strOfNums_data, List.map_append]
theorem shr_at (a : Int) (i : Nat) (h : i ≤ 7) : shr .i64 a ((8 * i : Nat) : Int) = a / 2 ^ (8 * i) := by
  show a / 2 ^ min (((8 * i : Nat) : Int)).toNat 64 = _
  rw [Int.toNat_natCast, Nat.min_eq_left (by omega)]
theorem w8 (i : Nat) (h : i ≤ 7) : wrap64 (8 * (i : Int)) = ((8 * i : Nat) : Int) := by rw [wrap64_id (by omega) (by omega)]; omega
theorem spec_number_l0 (a : Int) (m : Nat) : ∀ acc : List Int, m ≤ 8 → acc.length + m ≤ 1000 → Ev (fun k => spec_l01Number.l0 k a acc ((m : Int) - 1)) (strOfNums (acc ++ beL a m)) := by
  induction m with
  | zero =>
    intro acc _ _
    refine Ev.step (f := fun _ => some (strOfNums (acc ++ beL a 0))) (fun k => ?_) (Ev.now _)
    simp only [spec_l01Number.l0]; rw [if_neg (by omega), beL, List.append_nil]
  | succ m ih =>
    intro acc hm ha
    have e : ((m + 1 : Nat) : Int) - 1 = (m : Int) := by omega
    have u : IntKind.u64.wrap ((8 * m : Nat) : Int) = ((8 * m : Nat) : Int) := by rw [wrap_u64]; omega
    have w : wrap64 ((m : Int) - 1) = (m : Int) - 1 := wrap64_id (by omega) (by omega)
    have h := ih (acc ++ [(a / 2 ^ (8 * m)) % 256]) (by omega) (by simp; omega)
    rw [List.append_assoc] at h
    refine Ev.step (fun k => ?_) h
    simp only [spec_l01Number.l0, e, w8 m (by omega), u, w, shr_at a m (by omega)]
    rw [if_pos (by omega), if_pos (by omega), if_pos (by omega)]
theorem spec_number_ev (a : Int) (n : Nat) (hn : n ≤ 8) : Ev (fun k => spec_l01Number.f k a (n : Int)) (strOfNums (beL a n)) := by
  refine Ev.congr (fun k => ?_) (spec_number_l0 a n [] hn (by simp; omega))
  unfold spec_l01Number.f
  rw [wrap64_id (by omega) (by omega)]
theorem impl_be_l0 (a : Int) (n : Nat) (hn : n ≤ 8) (d : Nat) : ∀ i : Nat, i + d = n → Ev (fun k => impl_be.l0 k a (n : Int) (List.replicate (n - i) 0 ++ beL a i) (n : Int) (i : Int)) (beL a n) := by
  induction d with
  | zero =>
    intro i hi
    have : i = n := by omega
    subst this
    refine Ev.step (f := fun _ => some (beL a i)) (fun k => ?_) (Ev.now _)
    simp only [impl_be.l0]; rw [if_neg (by omega), Nat.sub_self]; rfl
  | succ d ih =>
    intro i hi
    have w1 : wrap64 ((i : Int) + 1) = ((i + 1 : Nat) : Int) := by rw [wrap64_id (by omega) (by omega)]; omega
    have w2 : wrap64 (wrap64 ((n : Int) - 1) - (i : Int)) = ((n - 1 - i : Nat) : Int) := by
      rw [wrap64_id (x := (n : Int) - 1) (by omega) (by omega), wrap64_id (by omega) (by omega)]; omega
    have hlen : (List.replicate (n - i) 0 ++ beL a i).length = n := by rw [List.length_append, List.length_replicate, beL_length]; omega
    have hset : (List.replicate (n - i) 0 ++ beL a i).set (n - 1 - i) ((a / 2 ^ (8 * i)) % 256) = List.replicate (n - (i + 1)) 0 ++ beL a (i + 1) := by
      have e : n - i = (n - (i + 1)) + 1 := by omega
      have e2 : n - 1 - i = n - (i + 1) := by omega
      rw [e, List.replicate_succ', List.append_assoc, e2, List.set_append_right _ _ (by simp), List.length_replicate, Nat.sub_self]
      rfl
    refine Ev.step (fun k => ?_) (ih (i + 1) (by omega))
    simp only [impl_be.l0, w8 i (by omega), w1, w2, shr_at a i (by omega), hlen, Int.toNat_natCast, hset]
    rw [if_pos (by omega), if_pos (by omega), if_pos (by omega), if_pos (by omega)]
theorem impl_be_ev (a : Int) (n : Nat) (hn : n ≤ 8) : Ev (fun k => impl_be.f k a (n : Int)) (beL a n) := by
  refine Ev.congr (fun k => ?_) (impl_be_l0 a n hn n 0 (by omega))
  unfold impl_be.f
  rw [if_pos (by omega), if_pos (by omega), Option.bind_some, Int.toNat_natCast, List.length_replicate, beL, List.append_nil]; rfl

/-! ### rows laid one behind the other -/
theorem bytesOf_app (x y : ByteArray) : bytesOf (x ++ y) = bytesOf x ++ bytesOf y := by
  unfold bytesOf; rw [ByteArray.data_append, Array.toList_append, List.map_append]
theorem bytesOf_len (x : ByteArray) : (bytesOf x).length = x.size := bytesOf_length x
theorem size_app (x y : ByteArray) : (x ++ y).size = x.size + y.size := ByteArray.size_append
theorem flat_take (ls : List (List Int)) (i : Nat) (h : i < ls.length) : (ls.take (i + 1)).flatten = (ls.take i).flatten ++ ls[i] := by
  rw [List.take_succ_eq_append_getElem h, List.flatten_append, List.flatten_cons, List.flatten_nil, List.append_nil]
theorem flat_le (ls : List (List Int)) (i : Nat) : (ls.take i).flatten.length ≤ ls.flatten.length := by
  conv => rhs; rw [← List.take_append_drop i ls]
  rw [List.flatten_append, List.length_append]; omega
theorem rdL_at (ls : List (List Int)) (i : Nat) (h : i < ls.length) : rd_L1 ls (i : Int) = ls[i] := by
  simp [rd_L1, List.getD_eq_getElem?_getD, h]
theorem concat_l1 (ls : List (List Int)) (hn : ls.length ≤ 1000) (ht : ls.flatten.length ≤ 100000000) (d : Nat) : ∀ i : Nat, i + d = ls.length → Ev (fun k => slices_Concat_byte_byte.l1 k (ls.take i).flatten ls (ls.length : Int) (i : Int)) ls.flatten := by
  induction d with
  | zero =>
    intro i hi
    refine Ev.step (f := fun _ => some ls.flatten) (fun k => ?_) (Ev.now _)
    simp only [slices_Concat_byte_byte.l1]; rw [if_neg (by omega), List.take_of_length_le (by omega)]
  | succ d ih =>
    intro i hi
    have w1 : wrap64 ((i : Int) + 1) = ((i + 1 : Nat) : Int) := by rw [wrap64_id (by omega) (by omega)]; omega
    have h := flat_take ls i (by omega)
    have h2 := flat_le ls (i + 1)
    rw [h, List.length_append] at h2
    refine Ev.step (fun k => ?_) (ih (i + 1) (by omega))
    simp only [slices_Concat_byte_byte.l1, w1, rdL_at ls i (by omega), h]
    rw [if_pos (by omega), if_pos (by omega), if_pos (by omega), if_pos (by omega)]
theorem concat_l0 (ls : List (List Int)) (hn : ls.length ≤ 1000) (ht : ls.flatten.length ≤ 100000000) (d : Nat) : ∀ i : Nat, i + d = ls.length → Ev (fun k => slices_Concat_byte_byte.l0 k ls (((ls.take i).flatten.length : Nat) : Int) ls (ls.length : Int) (i : Int)) ls.flatten := by
  induction d with
  | zero =>
    intro i hi
    have h2 := flat_le ls i
    refine Ev.step (f := fun k => slices_Concat_byte_byte.l1 k [] ls (ls.length : Int) 0) (fun k => ?_) (Ev.congr (fun k => rfl) (concat_l1 ls hn ht ls.length 0 (by omega)))
    simp only [slices_Concat_byte_byte.l0, slices_Grow_byte_byte.f]
    rw [if_neg (by omega), if_pos (show ([] : List Int).length = 0 from rfl), if_pos (by omega), if_pos (by omega), Option.bind_some]
  | succ d ih =>
    intro i hi
    have w1 : wrap64 ((i : Int) + 1) = ((i + 1 : Nat) : Int) := by rw [wrap64_id (by omega) (by omega)]; omega
    have h := flat_take ls i (by omega)
    have h2 := flat_le ls (i + 1)
    rw [h, List.length_append] at h2
    have w2 : wrap64 (((ls.take i).flatten.length : Nat) + (ls[i].length : Int)) = (((ls.take (i + 1)).flatten.length : Nat) : Int) := by rw [h, List.length_append, wrap64_id (by omega) (by omega)]; omega
    refine Ev.step (fun k => ?_) (ih (i + 1) (by omega))
    simp only [slices_Concat_byte_byte.l0, w1, rdL_at ls i (by omega), w2]
    rw [if_pos (by omega), if_pos (by omega), if_pos (by omega), if_neg (by omega)]
theorem concat_ev (ls : List (List Int)) (hn : ls.length ≤ 1000) (ht : ls.flatten.length ≤ 100000000) : Ev (fun k => slices_Concat_byte_byte.f k ls) ls.flatten :=
  Ev.congr (fun k => rfl) (concat_l0 ls hn ht ls.length 0 (by omega))

-- SAYS: DhcpBytes: a right message of leases is the same row to both; what is not right is refused alike; the program's row is its caller's own.
-- USES: Bytes Eq Mark Be Concat
def dhcpS (o x y kd : Int) (m : ByteArray) : ByteArray := (((((((((((((strOfNums (beL o 1) ++ (⟨#[1, 6, 0]⟩ : ByteArray)) ++ strOfNums (beL x 4)) ++ (⟨#[0, 0, 0, 0]⟩ : ByteArray)) ++ (⟨#[0, 0, 0, 0]⟩ : ByteArray)) ++ strOfNums (beL y 4)) ++ (⟨#[0, 0, 0, 0]⟩ : ByteArray)) ++ (⟨#[0, 0, 0, 0]⟩ : ByteArray)) ++ m) ++ (strOfNums (List.replicate 202 0))) ++ (⟨#[99, 130, 83, 99]⟩ : ByteArray)) ++ (⟨#[53, 1]⟩ : ByteArray)) ++ strOfNums (beL kd 1)) ++ (⟨#[255]⟩ : ByteArray))
theorem rep_bytes (n : Nat) : Bytes (List.replicate n 0) := fun x hx => by rw [List.eq_of_mem_replicate hx]; omega
theorem beL_one (a : Int) (h0 : 0 ≤ a) (h1 : a < 256) : beL a 1 = [a] := by
  show [a / 2 ^ (8 * 0) % 256] = [a]
  rw [show (2 : Int) ^ (8 * 0) = 1 from rfl, Int.ediv_one, Int.emod_eq_of_lt h0 h1]
theorem dhcp_size (o x y kd : Int) (m : ByteArray) (hm : m.size = 6) : (dhcpS o x y kd m).size = 244 := by
  have e1 : (⟨#[1, 6, 0]⟩ : ByteArray).size = 3 := rfl
  have e2 : (⟨#[0, 0, 0, 0]⟩ : ByteArray).size = 4 := rfl
  have e3 : (⟨#[99, 130, 83, 99]⟩ : ByteArray).size = 4 := rfl
  have e4 : (⟨#[53, 1]⟩ : ByteArray).size = 2 := rfl
  have e5 : (⟨#[255]⟩ : ByteArray).size = 1 := rfl
  unfold dhcpS
  simp only [size_app, str_size, beL_length, List.length_replicate, e1, e2, e3, e4, e5, hm]
theorem dhcp_flat (o x y kd : Int) (m : ByteArray) (ho : 0 ≤ o ∧ o < 256) (hk : 0 ≤ kd ∧ kd < 256) :
    ([[o, 1, 6, 0], beL x 4, List.replicate 8 0, beL y 4, List.replicate 8 0, bytesOf m, List.replicate 202 0, [99, 130, 83, 99], [53, 1, kd % 256, 255]] : List (List Int)).flatten = bytesOf (dhcpS o x y kd m) := by
  have e1 : bytesOf (⟨#[1, 6, 0]⟩ : ByteArray) = [1, 6, 0] := by decide +kernel
  have e2 : bytesOf (⟨#[0, 0, 0, 0]⟩ : ByteArray) = [0, 0, 0, 0] := by decide +kernel
  have e3 : bytesOf (⟨#[99, 130, 83, 99]⟩ : ByteArray) = [99, 130, 83, 99] := by decide +kernel
  have e4 : bytesOf (⟨#[53, 1]⟩ : ByteArray) = [53, 1] := by decide +kernel
  have e5 : bytesOf (⟨#[255]⟩ : ByteArray) = [255] := by decide +kernel
  have e8 : List.replicate 8 (0 : Int) = [0, 0, 0, 0, 0, 0, 0, 0] := rfl
  have eR := bytesOf_str (rep_bytes 202)
  have eo : bytesOf (strOfNums [o]) = [o] := bytesOf_str (fun x hx => by simp only [List.mem_singleton] at hx; subst hx; exact ho)
  have ek : bytesOf (strOfNums [kd]) = [kd] := bytesOf_str (fun x hx => by simp only [List.mem_singleton] at hx; subst hx; exact hk)
  unfold dhcpS
  simp only [bytesOf_app, bytesOf_str (beL_bytes _ _), eR, eo, ek, e1, e2, e3, e4, e5, e8, beL_one o ho.1 ho.2, beL_one kd hk.1 hk.2, Int.emod_eq_of_lt hk.1 hk.2, List.flatten_cons, List.flatten_nil, List.append_nil, List.append_assoc, List.cons_append, List.nil_append]
theorem spec_dhcp_ev (x y kd : Int) (rp : Bool) (m : ByteArray) (hm : m.size = 6) : Ev (fun k => spec_l03DhcpBytes.f k x y kd rp m) (dhcpS (1 + (if rp = true then 1 else 0)) x y kd m) := by
  have e1 : (⟨#[1, 6, 0]⟩ : ByteArray).size = 3 := rfl
  have e2 : (⟨#[0, 0, 0, 0]⟩ : ByteArray).size = 4 := rfl
  have e3 : (⟨#[99, 130, 83, 99]⟩ : ByteArray).size = 4 := rfl
  have e4 : (⟨#[53, 1]⟩ : ByteArray).size = 2 := rfl
  have e5 : (⟨#[255]⟩ : ByteArray).size = 1 := rfl
  have key : ∀ o : Int, o = 1 + (if rp = true then 1 else 0) → wrap64 (1 + (if rp = true then 1 else 0)) = o := by
    intro o ho; subst ho; split <;> exact wrap64_id (by omega) (by omega)
  have hb : ∀ k : Nat, spec_l01Bit.f rp = some (if rp = true then 1 else 0) := by intro _; unfold spec_l01Bit.f; split <;> rfl
  refine Ev.congr (fun k => by unfold spec_l03DhcpBytes.f; rw [hb k, Option.bind_some, key _ rfl]) ?_
  generalize (1 + if rp = true then (1 : Int) else 0) = o
  refine Ev.bind (spec_number_ev o 1 (by omega)) ?_
  refine Ev.congr (fun k => by rw [if_pos (by simp only [size_app, str_size, beL_length, e1, e2]; omega)]) ?_
  refine Ev.bind (spec_number_ev x 4 (by omega)) ?_
  refine Ev.congr (fun k => by rw [if_pos (by simp only [size_app, str_size, beL_length, e1, e2]; omega), if_pos (by simp only [size_app, str_size, beL_length, e1, e2]; omega), if_pos (by simp only [size_app, str_size, beL_length, e1, e2]; omega)]) ?_
  refine Ev.bind (spec_number_ev y 4 (by omega)) ?_
  refine Ev.congr (fun k => by rw [if_pos (by simp only [size_app, str_size, beL_length, e1, e2]; omega), if_pos (by simp only [size_app, str_size, beL_length, e1, e2]; omega), if_pos (by simp only [size_app, str_size, beL_length, e1, e2]; omega), if_pos (by simp only [size_app, str_size, beL_length, e1, e2, hm]; omega), if_pos (by omega), Option.bind_some, if_pos (by simp only [size_app, str_size, beL_length, List.length_replicate, e1, e2, hm]; omega), if_pos (by simp only [size_app, str_size, beL_length, List.length_replicate, e1, e2, hm]; omega), if_pos (by simp only [size_app, str_size, beL_length, List.length_replicate, e1, e2, e3, hm]; omega)]) ?_
  refine Ev.bind (spec_number_ev kd 1 (by omega)) ?_
  refine Ev.congr (fun k => by rw [if_pos (by simp only [size_app, str_size, beL_length, List.length_replicate, e1, e2, e3, e4, hm]; omega), if_pos (by simp only [size_app, str_size, beL_length, List.length_replicate, e1, e2, e3, e4, hm]; omega)]; rfl) (Ev.now _)
theorem impl_dhcp_ev (x y kd : Int) (rp : Bool) (m : ByteArray) (hm : m.size = 6) (hk : 0 ≤ kd ∧ kd < 256) : Ev (fun k => impl_DhcpBytes.j0 k false x y kd rp m) (bytesOf (dhcpS (1 + (if rp = true then 1 else 0)) x y kd m), (0 : Int)) := by
  have hz : ∀ o : Int, (bytesOf (dhcpS o x y kd m)).length = 244 := fun o => by rw [bytesOf_len, dhcp_size _ _ _ _ _ hm]
  cases rp with
  | true =>
    have hF := dhcp_flat 2 x y kd m (by omega) hk
    refine Ev.step (fun k => by simp only [impl_DhcpBytes.j0]; rw [if_neg (by decide), if_pos trivial]) ?_
    refine Ev.bind (impl_be_ev x 4 (by omega)) ?_
    refine Ev.congr (fun k => by rw [if_pos (by omega)]) ?_
    refine Ev.bind (impl_be_ev y 4 (by omega)) ?_
    refine Ev.congr (fun k => by rw [if_pos (by omega), if_pos (by omega)]) ?_
    refine Ev.bind (concat_ev _ (by simp) (by rw [hF, hz]; omega)) ?_
    rw [hF]; exact Ev.now _
  | false =>
    have hF := dhcp_flat 1 x y kd m (by omega) hk
    refine Ev.step (fun k => by simp only [impl_DhcpBytes.j0]; rw [if_neg (by decide), if_neg (by decide)]) ?_
    refine Ev.bind (impl_be_ev x 4 (by omega)) ?_
    refine Ev.congr (fun k => by rw [if_pos (by omega)]) ?_
    refine Ev.bind (impl_be_ev y 4 (by omega)) ?_
    refine Ev.congr (fun k => by rw [if_pos (by omega), if_pos (by omega)]) ?_
    refine Ev.bind (concat_ev _ (by simp) (by rw [hF, hz]; omega)) ?_
    rw [hF]; exact Ev.now _
theorem dhcpBytes (x y kd : Int) (rp : Bool) (m : ByteArray) : ∃ r : List Int × Int, r.1.length ≤ 1000 ∧ Ev (fun k => spec_DhcpBytes.f k x y kd rp m) r ∧ Ev (fun k => impl_DhcpBytes.f k x y kd rp m) r := by
  by_cases h : (0 ≤ x ∧ x ≤ 4294967295) ∧ (0 ≤ y ∧ y ≤ 4294967295) ∧ (1 ≤ kd ∧ kd ≤ 8) ∧ m.size = 6
  · obtain ⟨hx, hy, hk, hm⟩ := h
    have hm2 : (m.size : Int) = 6 := by omega
    refine ⟨(bytesOf (dhcpS (1 + (if rp = true then 1 else 0)) x y kd m), 0), by rw [bytesOf_len, dhcp_size _ _ _ _ _ hm]; omega, ?_, ?_⟩
    · have : spec_l03Dhcp.f x y kd rp m = some true := by
        simp [spec_l03Dhcp.f, spec_l01Mac.f, spec_l01Ip.f, spec_l01In.f, hm2, hx.1, hx.2, hy.1, hy.2, hk.1, hk.2]
      refine Ev.congr (fun k => by unfold spec_DhcpBytes.f; rw [this, Option.bind_some, if_pos rfl]) ?_
      refine Ev.bind (spec_dhcp_ev x y kd rp m hm) ?_
      refine Ev.congr (fun k => by rw [if_pos (by rw [dhcp_size _ _ _ _ _ hm]; omega)]) (Ev.now _)
    · refine Ev.congr (fun k => ?_) (impl_dhcp_ev x y kd rp m hm (by omega))
      simp [impl_DhcpBytes.f, impl_macOK.f, impl_isAddress.f, impl_within.f, hm2, hx.1, hx.2, hy.1, hy.2, hk.1, hk.2]
  · refine ⟨([], 1), by simp, Ev.congr (fun k => ?_) (Ev.now _), ?_⟩
    · unfold spec_DhcpBytes.f
      have : spec_l03Dhcp.f x y kd rp m = some false := by
        simp only [spec_l03Dhcp.f, spec_l01Mac.f, spec_l01Ip.f, spec_l01In.f, Option.bind_some]
        by_cases h1 : 0 ≤ x
        · by_cases h2 : x ≤ 4294967295
          · by_cases h3 : 0 ≤ y
            · by_cases h4 : y ≤ 4294967295
              · by_cases h5 : 1 ≤ kd
                · by_cases h6 : kd ≤ 8
                  · have h7 : ¬ (m.size : Int) = 6 := fun h7 => h ⟨⟨h1, h2⟩, ⟨h3, h4⟩, ⟨h5, h6⟩, by omega⟩
                    simp [h1, h2, h3, h4, h5, h6, h7]
                  · simp [h1, h2, h3, h4, h5, h6]
                · simp [h1, h2, h3, h4, h5]
              · simp [h1, h2, h3, h4]
            · simp [h1, h2, h3]
          · simp [h1, h2]
        · simp [h1]
      rw [this, Option.bind_some, if_neg (by decide)]
    · have hj : Ev (fun k => impl_DhcpBytes.j0 k true x y kd rp m) (([] : List Int), (1 : Int)) := Ev.step (fun k => by simp only [impl_DhcpBytes.j0]; rw [if_pos trivial]) (Ev.now _)
      refine Ev.congr (fun k => ?_) hj
      simp only [impl_DhcpBytes.f, impl_macOK.f, impl_isAddress.f, impl_within.f, Option.bind_some, ge_iff_le]
      by_cases h1 : 0 ≤ x
      · by_cases h2 : x ≤ 4294967295
        · by_cases h3 : 0 ≤ y
          · by_cases h4 : y ≤ 4294967295
            · by_cases h5 : 1 ≤ kd
              · by_cases h6 : kd ≤ 8
                · have h7 : ¬ (m.size : Int) = 6 := fun h7 => h ⟨⟨h1, h2⟩, ⟨h3, h4⟩, ⟨h5, h6⟩, by omega⟩
                  have h8 : ((m.size : Int) == 6) = false := beq_eq_false_iff_ne.2 h7
                  simp [h1, h2, h3, h4, h5, h6, h8]
                · simp [h1, h2, h3, h4, h5, h6]
              · simp [h1, h2, h3, h4, h5]
            · simp [h1, h2, h3, h4]
          · simp [h1, h2, h3]
        · simp [h1, h2]
      · simp [h1]
theorem FnExactDhcpBytes : laws_FnExactDhcpBytes.Pure := by
  intro x y kd rp m _ _ _ _
  apply Ev.rounds
  obtain ⟨v, hv⟩ : ∃ v, laws_szDhcp.f x y kd rp m 1048576 = some v := by
    unfold laws_szDhcp.f; (repeat' split) <;> exact ⟨_, rfl⟩
  obtain ⟨⟨r1, r2⟩, hl, hS, hI⟩ := dhcpBytes x y kd rp m
  replace hl : r1.length ≤ 1000 := hl
  have hE := eqByteS_ev r1 (by omega)
  by_cases h0 : v < 0
  · refine Ev.congr (fun k => ?_) (Ev.now true)
    unfold laws_FnExactDhcpBytes.f; rw [hv, Option.bind_some, if_pos h0]
  refine Ev.congr (fun k => by unfold laws_FnExactDhcpBytes.f laws_toDhcp.f; rw [hv, Option.bind_some, if_neg h0, Option.bind_some]) ?_
  refine Ev.bind hS ?_
  refine Ev.congr (fun k => Option.bind_some _ _) ?_
  refine Ev.bind hI (Ev.bind hE ?_)
  simp only [if_true, bne_self_eq_false]
  refine Ev.step (fun k => by simp only [laws_FnExactDhcpBytes.j0]; rw [if_neg (by decide)]) ?_
  refine Ev.bind (mark_ev r1 (by omega)) (Ev.bind (held_ev r1.length (by omega)) ?_)
  refine Ev.congr (fun k => by unfold laws_toDhcp.f; rw [if_neg (by omega), if_pos rfl, Option.bind_some]) ?_
  refine Ev.bind hI (Ev.bind hE ?_)
  simp only [if_true, bne_self_eq_false]
  refine Ev.step (fun k => by simp only [laws_FnExactDhcpBytes.j1]; rw [if_neg (by decide)]) ?_
  refine Ev.bind (held_ev r1.length (by omega)) ?_
  refine Ev.congr (fun k => by rw [if_neg (by omega), if_pos rfl]) (Ev.now _)

end Go.Proofs.Ythfhflgiblmooaa.Pure
