/- DnsBytes: a right question for a name is the same row to both; what is not right is refused alike; the program's row is its caller's own. -/
import Derived.Test.YtpnbhgoblgbdkaaDoorPDyx6
import Derived.Test.YtpnbhgoblgbdkaaDoorBase
import Derived.Lib.SplitLaws
import Derived.Lib.CountLaws
import Derived.Lib.IndexBytes
import Derived.Lib.CutLaws
set_option linter.unusedSimpArgs false
set_option linter.unusedVariables false
namespace Go.Proofs.YtpnbhgoblgbdkaaDoor.Pure
open Go.RowKit Go.Proofs.YtpnbhgoblgbdkaaDoor.PDy Go.Proofs.YtpnbhgoblgbdkaaDoorW.PrintWords Go.Proofs.YtpnbhgoblgbdkaaDoorW.PrintLast Go.Proofs.YtpnbhgoblgbdkaaDoorW.PrintMore Base

/-! ### rows of bytes and the strings of them -/
def Bytes (l : List Int) : Prop := ∀ x ∈ l, 0 ≤ x ∧ x < 256
theorem bytes_wf {l : List Int} (h : ∀ x ∈ l, (Lit.int .u8 x).wf = true) : Bytes l := fun x hx => wf_u8 (h x hx)
theorem bytes_take {l : List Int} (h : Bytes l) (n : Nat) : Bytes (l.take n) := fun x hx => h x (List.mem_of_mem_take hx)
theorem bytes_drop {l : List Int} (h : Bytes l) (n : Nat) : Bytes (l.drop n) := fun x hx => h x (List.mem_of_mem_drop hx)
theorem rd_nat (l : List Int) (i : Nat) : rd l (i : Int) = l.getD i 0 := by simp [rd]
theorem rd_at (l : List Int) (i : Nat) (h : i < l.length) : rd l (i : Int) = l[i] := by
  rw [rd_nat, List.getD_eq_getElem?_getD, List.getElem?_eq_getElem h]; rfl
theorem rd_byte {l : List Int} (h : Bytes l) (i : Nat) : 0 ≤ rd l (i : Int) ∧ rd l (i : Int) < 256 := by
  by_cases hi : i < l.length
  · rw [rd_at l i hi]; exact h _ (List.getElem_mem hi)
  · rw [rd_nat, List.getD_eq_getElem?_getD, List.getElem?_eq_none (by omega)]; simp
theorem str_bt {l : List Int} (h : Bytes l) (i : Nat) : bt (strOfNums l) (i : Int) = rd l (i : Int) := by
  rw [bt_nat, strOfNums_data, rd_nat, List.getD_eq_getElem?_getD, List.getD_eq_getElem?_getD, List.getElem?_map]
  by_cases hi : i < l.length
  · rw [List.getElem?_eq_getElem hi]
    simp only [Option.map_some, Option.getD_some]
    have := h _ (List.getElem_mem hi)
    rw [UInt8.toNat_ofNat']; omega
  · rw [List.getElem?_eq_none (by omega)]; rfl
theorem str_cut (l : List Int) (a b : Nat) : (strOfNums l).extract a b = strOfNums ((l.take b).drop a) := by
  apply toList_inj
  rw [toList_data, toList_data, strOfNums_data, ByteArray.data_extract, Array.toList_extract, List.extract_eq_take_drop, strOfNums_data, List.map_drop, List.map_take, List.drop_take]
theorem str_size (l : List Int) : (strOfNums l).size = l.length := strOfNums_size l

/-! ### the number of a row of bytes, high byte first -/
def num (l : List Int) : Int := l.foldl (fun n c => n * 256 + c) 0
theorem num_snoc (l : List Int) (c : Int) : num (l ++ [c]) = num l * 256 + c := by simp [num]
theorem num_take (l : List Int) (i : Nat) (h : i < l.length) : num (l.take (i + 1)) = num (l.take i) * 256 + l[i] := by
  rw [List.take_succ_eq_append_getElem h, num_snoc]
theorem num_0 {l : List Int} (h : Bytes l) : ∀ i, i ≤ l.length → 0 ≤ num (l.take i) ∧ num (l.take i) < 256 ^ i := by
  intro i
  induction i with
  | zero => intro _; rw [List.take_zero]; exact ⟨by decide, by decide⟩
  | succ i ih =>
    intro hi
    have h1 := ih (by omega)
    have h2 := h _ (List.getElem_mem (show i < l.length by omega))
    rw [num_take l i (by omega), Int.pow_succ]
    omega
theorem num_6 {l : List Int} (h : Bytes l) (i : Nat) (hi : i ≤ l.length) (h7 : i ≤ 6) : 0 ≤ num (l.take i) ∧ num (l.take i) < 281474976710656 := by
  have h1 := num_0 h i hi
  rcases (show i = 0 ∨ i = 1 ∨ i = 2 ∨ i = 3 ∨ i = 4 ∨ i = 5 ∨ i = 6 by omega) with e | e | e | e | e | e | e <;> rw [e] at h1 ⊢ <;> omega
theorem num_lt {l : List Int} (h : Bytes l) (n : Nat) (hn : l.length = n) : 0 ≤ num l ∧ num l < 256 ^ n := by
  have := num_0 h l.length (Nat.le_refl _)
  rw [List.take_length] at this; rw [hn] at this; exact this

/-! ### a row compared with itself -/
theorem eqByteS_l0 (l : List Int) (hl : l.length ≤ 1048576) (d : Nat) : ∀ (i : Nat), i + d = l.length → Ev (fun k => laws_eqByteS.l0 k l l (i : Int)) true := by
  induction d with
  | zero =>
    intro i hi
    refine Ev.step (f := fun _ => some true) (fun k => ?_) (Ev.now _)
    simp only [laws_eqByteS.l0]; rw [if_neg (by omega)]
  | succ d ih =>
    intro i hi
    have hw : wrap64 ((i : Int) + 1) = ((i + 1 : Nat) : Int) := by rw [wrap64_id (by omega) (by omega)]; omega
    refine Ev.step (f := fun k => laws_eqByteS.l0 k l l ((i + 1 : Nat) : Int)) (fun k => ?_) (ih (i + 1) (by omega))
    simp only [laws_eqByteS.l0, hw]; rw [if_pos (by omega), if_pos (by omega), if_pos (by omega), if_pos trivial]
theorem eqByteS_ev (l : List Int) (hl : l.length ≤ 1048576) : Ev (fun k => laws_eqByteS.f k l l) true := by
  refine Ev.congr (f := fun k => laws_eqByteS.l0 k l l ((0 : Nat) : Int)) (fun k => ?_) (eqByteS_l0 l hl l.length 0 (by omega))
  unfold laws_eqByteS.f
  rw [if_pos rfl]; rfl

/-! ### the marks that a law sets into a row, and finds there -/
def marks (n : Nat) : List Int := (List.range n).map fun (j : Nat) => (1 + (j : Int)) % 256
theorem marks_length (n : Nat) : (marks n).length = n := by simp [marks]
theorem marks_at (n i : Nat) (h : i < n) : (marks n)[i]? = some ((1 + (i : Int)) % 256) := by
  simp [marks, h]
theorem mark_l0 (d : Nat) : ∀ (i : Nat) (x : List Int), i + d = x.length → x.length ≤ 1000000000 → (∀ j : Nat, j < i → x[j]? = some ((1 + (j : Int)) % 256)) → Ev (fun k => laws_markByteS.l0 k x (1 + (i : Int)) (i : Int)) (1 + (x.length : Int), marks x.length) := by
  induction d with
  | zero =>
    intro i x hi hn hj
    have e : x = marks x.length := by
      apply List.ext_getElem?
      intro j
      by_cases h : j < i
      · rw [hj j h, marks_at _ j (by omega)]
      · rw [List.getElem?_eq_none (by omega), List.getElem?_eq_none (by rw [marks_length]; omega)]
    refine Ev.step (f := fun _ => some (1 + (x.length : Int), marks x.length)) (fun k => ?_) (Ev.now _)
    simp only [laws_markByteS.l0]; rw [if_neg (by omega), ← e, show (i : Int) = x.length by omega]
  | succ d ih =>
    intro i x hi hn hj
    have w1 : wrap64 ((i : Int) + 1) = ((i + 1 : Nat) : Int) := by rw [wrap64_id (by omega) (by omega)]; omega
    have w2 : wrap64 (1 + (i : Int) + 1) = 1 + ((i + 1 : Nat) : Int) := by rw [wrap64_id (by omega) (by omega)]; omega
    have h := ih (i + 1) (x.set i ((1 + (i : Int)) % 256)) (by simp; omega) (by simpa using hn) (fun j hji => ?_)
    · rw [List.length_set] at h
      refine Ev.step (fun k => ?_) h
      simp only [laws_markByteS.l0, w1, w2]; rw [if_pos (by omega), if_pos (by omega)]; rfl
    · by_cases hq : j = i
      · subst hq; rw [List.getElem?_set_self (by omega)]
      · rw [List.getElem?_set_ne (by omega)]; exact hj j (by omega)
theorem mark_ev (x : List Int) (hn : x.length ≤ 1000000000) : Ev (fun k => laws_markByteS.f k x 1) (1 + (x.length : Int), marks x.length) :=
  Ev.congr (fun k => rfl) (mark_l0 x.length 0 x (by omega) hn (fun j hj => by omega))
theorem held_l0 (n : Nat) (hn : n ≤ 1000000000) (d : Nat) : ∀ (i : Nat), i + d = n → Ev (fun k => laws_heldByteS.l0 k (marks n) (1 + (i : Int)) (i : Int)) (1 + (n : Int)) := by
  induction d with
  | zero =>
    intro i hi
    refine Ev.step (f := fun _ => some (1 + (n : Int))) (fun k => ?_) (Ev.now _)
    simp only [laws_heldByteS.l0, marks_length]; rw [if_neg (by omega), show (i : Int) = n by omega]
  | succ d ih =>
    intro i hi
    have w1 : wrap64 ((i : Int) + 1) = ((i + 1 : Nat) : Int) := by rw [wrap64_id (by omega) (by omega)]; omega
    have w2 : wrap64 (1 + (i : Int) + 1) = 1 + ((i + 1 : Nat) : Int) := by rw [wrap64_id (by omega) (by omega)]; omega
    have hr : rd (marks n) (i : Int) = (1 + (i : Int)) % 256 := by rw [rd_nat, List.getD_eq_getElem?_getD, marks_at n i (by omega)]; rfl
    refine Ev.step (fun k => ?_) (ih (i + 1) (by omega))
    simp only [laws_heldByteS.l0, marks_length, w1, w2, hr]; rw [if_pos (by omega), if_pos (by omega), if_pos trivial]
theorem held_ev (n : Nat) (hn : n ≤ 1000000000) : Ev (fun k => laws_heldByteS.f k (marks n) 1) (1 + (n : Int)) :=
  Ev.congr (fun k => rfl) (held_l0 n hn n 0 (by omega))

/-! ### the bytes of a number, high byte first -/
def beL (a : Int) : Nat → List Int
  | 0 => []
  | m + 1 => (a / 2 ^ (8 * m)) % 256 :: beL a m
theorem beL_length (a : Int) (m : Nat) : (beL a m).length = m := by
  induction m with
  | zero => rfl
  | succ m ih => simp [beL, ih]
theorem beL_bytes (a : Int) (m : Nat) : Bytes (beL a m) := by
  induction m with
  | zero => intro x hx; simp [beL] at hx
  | succ m ih =>
    intro x hx
    simp only [beL, List.mem_cons] at hx
    rcases hx with rfl | hx
    · exact ⟨Int.emod_nonneg _ (by decide), Int.emod_lt_of_pos _ (by decide)⟩
    · exact ih x hx
theorem bytesOf_str {l : List Int} (h : Bytes l) : bytesOf (strOfNums l) = l := by
  unfold bytesOf
  rw [strOfNums_data, List.map_map]
  conv => rhs; rw [← List.map_id l]
  apply List.map_congr_left
  intro x hx
  have := h x hx
  simp only [Function.comp, UInt8.toNat_ofNat', id]; omega
theorem str_app (x y : List Int) : strOfNums x ++ strOfNums y = strOfNums (x ++ y) := by
  apply toList_inj
  rw [toList_data, toList_data, ByteArray.data_append, Array.toList_append, strOfNums_data, strOfNums_data, strOfNums_data, List.map_append]
theorem shr_at (a : Int) (i : Nat) (h : i ≤ 7) : shr .i64 a ((8 * i : Nat) : Int) = a / 2 ^ (8 * i) := by
  show a / 2 ^ min (((8 * i : Nat) : Int)).toNat 64 = _
  rw [Int.toNat_natCast, Nat.min_eq_left (by omega)]
theorem w8 (i : Nat) (h : i ≤ 7) : wrap64 (8 * (i : Int)) = ((8 * i : Nat) : Int) := by rw [wrap64_id (by omega) (by omega)]; omega
theorem spec_number_l0 (a : Int) (m : Nat) : ∀ acc : List Int, m ≤ 8 → acc.length + m ≤ 1000 → Ev (fun k => spec_l01Number.l0 k a acc ((m : Int) - 1)) (strOfNums (acc ++ beL a m)) := by
  induction m with
  | zero =>
    intro acc _ _
    refine Ev.step (f := fun _ => some (strOfNums (acc ++ beL a 0))) (fun k => ?_) (Ev.now _)
    simp only [spec_l01Number.l0]; rw [if_neg (by omega), beL, List.append_nil]
  | succ m ih =>
    intro acc hm ha
    have e : ((m + 1 : Nat) : Int) - 1 = (m : Int) := by omega
    have u : IntKind.u64.wrap ((8 * m : Nat) : Int) = ((8 * m : Nat) : Int) := by rw [wrap_u64]; omega
    have w : wrap64 ((m : Int) - 1) = (m : Int) - 1 := wrap64_id (by omega) (by omega)
    have h := ih (acc ++ [(a / 2 ^ (8 * m)) % 256]) (by omega) (by simp; omega)
    rw [List.append_assoc] at h
    refine Ev.step (fun k => ?_) h
    simp only [spec_l01Number.l0, e, w8 m (by omega), u, w, shr_at a m (by omega)]
    rw [if_pos (by omega), if_pos (by omega), if_pos (by omega)]
theorem spec_number_ev (a : Int) (n : Nat) (hn : n ≤ 8) : Ev (fun k => spec_l01Number.f k a (n : Int)) (strOfNums (beL a n)) := by
  refine Ev.congr (fun k => ?_) (spec_number_l0 a n [] hn (by simp; omega))
  unfold spec_l01Number.f
  rw [wrap64_id (by omega) (by omega)]
theorem impl_be_l0 (a : Int) (n : Nat) (hn : n ≤ 8) (d : Nat) : ∀ i : Nat, i + d = n → Ev (fun k => impl_be.l0 k a (n : Int) (List.replicate (n - i) 0 ++ beL a i) (n : Int) (i : Int)) (beL a n) := by
  induction d with
  | zero =>
    intro i hi
    have : i = n := by omega
    subst this
    refine Ev.step (f := fun _ => some (beL a i)) (fun k => ?_) (Ev.now _)
    simp only [impl_be.l0]; rw [if_neg (by omega), Nat.sub_self]; rfl
  | succ d ih =>
    intro i hi
    have w1 : wrap64 ((i : Int) + 1) = ((i + 1 : Nat) : Int) := by rw [wrap64_id (by omega) (by omega)]; omega
    have w2 : wrap64 (wrap64 ((n : Int) - 1) - (i : Int)) = ((n - 1 - i : Nat) : Int) := by
      rw [wrap64_id (x := (n : Int) - 1) (by omega) (by omega), wrap64_id (by omega) (by omega)]; omega
    have hlen : (List.replicate (n - i) 0 ++ beL a i).length = n := by rw [List.length_append, List.length_replicate, beL_length]; omega
    have hset : (List.replicate (n - i) 0 ++ beL a i).set (n - 1 - i) ((a / 2 ^ (8 * i)) % 256) = List.replicate (n - (i + 1)) 0 ++ beL a (i + 1) := by
      have e : n - i = (n - (i + 1)) + 1 := by omega
      have e2 : n - 1 - i = n - (i + 1) := by omega
      rw [e, List.replicate_succ', List.append_assoc, e2, List.set_append_right _ _ (by simp), List.length_replicate, Nat.sub_self]
      rfl
    refine Ev.step (fun k => ?_) (ih (i + 1) (by omega))
    simp only [impl_be.l0, w8 i (by omega), w1, w2, shr_at a i (by omega), hlen, Int.toNat_natCast, hset]
    rw [if_pos (by omega), if_pos (by omega), if_pos (by omega), if_pos (by omega)]
theorem impl_be_ev (a : Int) (n : Nat) (hn : n ≤ 8) : Ev (fun k => impl_be.f k a (n : Int)) (beL a n) := by
  refine Ev.congr (fun k => ?_) (impl_be_l0 a n hn n 0 (by omega))
  unfold impl_be.f
  rw [if_pos (by omega), if_pos (by omega), Option.bind_some, Int.toNat_natCast, List.length_replicate, beL, List.append_nil]; rfl

/-! ### a string's bytes make the string -/
theorem str_bytesOf (a : ByteArray) : strOfNums (bytesOf a) = a := by
  apply toList_inj
  rw [toList_data, toList_data, strOfNums_data]
  unfold bytesOf
  rw [List.map_map]
  conv => rhs; rw [← List.map_id a.data.toList]
  apply List.map_congr_left
  intro x _
  simp [Function.comp]
theorem bytesOf_bytes (a : ByteArray) : Bytes (bytesOf a) := by
  intro x hx
  unfold bytesOf at hx
  obtain ⟨y, _, rfl⟩ := List.mem_map.1 hx
  have := y.toNat_lt
  exact ⟨by omega, by omega⟩
theorem beL_two (a : Int) : ∃ x y, beL a 2 = [x, y] := ⟨_, _, rfl⟩
theorem beL_four (a : Int) : ∃ x y z u, beL a 4 = [x, y, z, u] := ⟨_, _, _, _, rfl⟩
/-! ### rows laid one behind the other -/
theorem bytesOf_app (x y : ByteArray) : bytesOf (x ++ y) = bytesOf x ++ bytesOf y := by
  unfold bytesOf; rw [ByteArray.data_append, Array.toList_append, List.map_append]
theorem bytesOf_len (x : ByteArray) : (bytesOf x).length = x.size := bytesOf_length x
theorem size_app (x y : ByteArray) : (x ++ y).size = x.size + y.size := ByteArray.size_append
theorem flat_take (ls : List (List Int)) (i : Nat) (h : i < ls.length) : (ls.take (i + 1)).flatten = (ls.take i).flatten ++ ls[i] := by
  rw [List.take_succ_eq_append_getElem h, List.flatten_append, List.flatten_cons, List.flatten_nil, List.append_nil]
theorem flat_le (ls : List (List Int)) (i : Nat) : (ls.take i).flatten.length ≤ ls.flatten.length := by
  conv => rhs; rw [← List.take_append_drop i ls]
  rw [List.flatten_append, List.length_append]; omega
theorem rdL_at (ls : List (List Int)) (i : Nat) (h : i < ls.length) : rd_L2 ls (i : Int) = ls[i] := by
  simp [rd_L2, List.getD_eq_getElem?_getD, h]
theorem concat_l1 (ls : List (List Int)) (hn : ls.length ≤ 1000) (ht : ls.flatten.length ≤ 100000000) (d : Nat) : ∀ i : Nat, i + d = ls.length → Ev (fun k => slices_Concat_byte_byte.l1 k (ls.take i).flatten ls (ls.length : Int) (i : Int)) ls.flatten := by
  induction d with
  | zero =>
    intro i hi
    refine Ev.step (f := fun _ => some ls.flatten) (fun k => ?_) (Ev.now _)
    simp only [slices_Concat_byte_byte.l1]; rw [if_neg (by omega), List.take_of_length_le (by omega)]
  | succ d ih =>
    intro i hi
    have w1 : wrap64 ((i : Int) + 1) = ((i + 1 : Nat) : Int) := by rw [wrap64_id (by omega) (by omega)]; omega
    have h := flat_take ls i (by omega)
    have h2 := flat_le ls (i + 1)
    rw [h, List.length_append] at h2
    refine Ev.step (fun k => ?_) (ih (i + 1) (by omega))
    simp only [slices_Concat_byte_byte.l1, w1, rdL_at ls i (by omega), h]
    rw [if_pos (by omega), if_pos (by omega), if_pos (by omega), if_pos (by omega)]
theorem concat_l0 (ls : List (List Int)) (hn : ls.length ≤ 1000) (ht : ls.flatten.length ≤ 100000000) (d : Nat) : ∀ i : Nat, i + d = ls.length → Ev (fun k => slices_Concat_byte_byte.l0 k ls (((ls.take i).flatten.length : Nat) : Int) ls (ls.length : Int) (i : Int)) ls.flatten := by
  induction d with
  | zero =>
    intro i hi
    have h2 := flat_le ls i
    refine Ev.step (f := fun k => slices_Concat_byte_byte.l1 k [] ls (ls.length : Int) 0) (fun k => ?_) (Ev.congr (fun k => rfl) (concat_l1 ls hn ht ls.length 0 (by omega)))
    simp only [slices_Concat_byte_byte.l0, slices_Grow_byte_byte.f]
    rw [if_neg (by omega), if_pos (show ([] : List Int).length = 0 from rfl), if_pos (by omega), if_pos (by omega), Option.bind_some]
  | succ d ih =>
    intro i hi
    have w1 : wrap64 ((i : Int) + 1) = ((i + 1 : Nat) : Int) := by rw [wrap64_id (by omega) (by omega)]; omega
    have h := flat_take ls i (by omega)
    have h2 := flat_le ls (i + 1)
    rw [h, List.length_append] at h2
    have w2 : wrap64 (((ls.take i).flatten.length : Nat) + (ls[i].length : Int)) = (((ls.take (i + 1)).flatten.length : Nat) : Int) := by rw [h, List.length_append, wrap64_id (by omega) (by omega)]; omega
    refine Ev.step (fun k => ?_) (ih (i + 1) (by omega))
    simp only [slices_Concat_byte_byte.l0, w1, rdL_at ls i (by omega), w2]
    rw [if_pos (by omega), if_pos (by omega), if_pos (by omega), if_neg (by omega)]
theorem concat_ev (ls : List (List Int)) (hn : ls.length ≤ 1000) (ht : ls.flatten.length ≤ 100000000) : Ev (fun k => slices_Concat_byte_byte.f k ls) ls.flatten :=
  Ev.congr (fun k => rfl) (concat_l0 ls hn ht ls.length 0 (by omega))


/-! ### the pieces between dots, and a name of them -/
theorem conv (t : ByteArray) : Lib.indexB t ⟨#[46]⟩ = Lib.indexByte t.data.toList 46 := Lib.index_one t.data.toList 46
theorem one_miss (t : ByteArray) (h : ∀ j : Nat, t.data.toList[j]? ≠ some 46) : Lib.indexB t ⟨#[46]⟩ = -1 := by
  rcases Lib.indexB_cases t ⟨#[46]⟩ with e | ⟨i, e, _⟩
  · exact e
  · rw [conv] at e
    exact absurd (Lib.indexByte_some e).1 (h i)
theorem one_hit (t : ByteArray) (n : Nat) (h : t.data.toList[n]? = some 46) (hno : ∀ j : Nat, j < n → t.data.toList[j]? ≠ some 46) : Lib.indexB t ⟨#[46]⟩ = n := by
  rcases Lib.indexB_cases t ⟨#[46]⟩ with e | ⟨i, e, _⟩
  · rw [conv] at e
    exact absurd h (Lib.indexByte_none e n)
  · have e2 := e
    rw [conv] at e
    obtain ⟨h1, h2⟩ := Lib.indexByte_some e
    rw [e2]
    rcases Nat.lt_trichotomy i n with q | q | q
    · exact absurd h1 (hno i q)
    · rw [q]
    · exact absurd h (h2 n q)
theorem ex_list (s : ByteArray) (a n : Nat) : (s.extract a n).data.toList = (s.data.toList.take n).drop a := by
  rw [ByteArray.data_extract, Array.toList_extract, List.extract_eq_take_drop, List.drop_take]
theorem ex_ex (s : ByteArray) (a b c : Nat) (h : a + c ≤ s.size) : (s.extract a s.size).extract b c = s.extract (a + b) (a + c) := by
  apply toList_inj
  rw [toList_data, toList_data, ex_list, ex_list, ex_list, List.take_of_length_le (l := s.data.toList) (by rw [data_length]; exact Nat.le_refl _), List.take_drop, List.drop_drop]
theorem bt_46 (s : ByteArray) (i : Nat) : bt s (i : Int) = 46 ↔ s.data.toList[i]? = some 46 := by
  rw [bt_nat]
  by_cases h : i < s.data.toList.length
  · rw [List.getD_eq_getElem?_getD, List.getElem?_eq_getElem h]
    simp only [Option.getD_some, Option.some.injEq]
    constructor
    · intro e
      have : s.data.toList[i].toNat = 46 := by omega
      exact UInt8.toNat_inj.1 this
    · intro e; rw [e]; rfl
  · rw [List.getD_eq_getElem?_getD, List.getElem?_eq_none (by omega)]; simp
def cutFrom (s : ByteArray) (a i : Nat) : Nat → List ByteArray
  | 0 => [s.extract a s.size]
  | d + 1 => if bt s (i : Int) = 46 then s.extract a i :: cutFrom s (i + 1) (i + 1) d else cutFrom s a (i + 1) d
theorem cut_split (s : ByteArray) (d : Nat) : ∀ a i : Nat, a ≤ i → i + d = s.size → (∀ j, a ≤ j → j < i → s.data.toList[j]? ≠ some 46) → cutFrom s a i d = Lib.splitB ⟨#[46]⟩ 0 (Lib.countB (s.extract a s.size) ⟨#[46]⟩) (s.extract a s.size) := by
  have at_ : ∀ a j : Nat, (s.extract a s.size).data.toList[j]? = s.data.toList[a + j]? := fun a j => by
    rw [ex_list, List.take_of_length_le (by rw [data_length]; omega), List.getElem?_drop]
  induction d with
  | zero =>
    intro a i ha hi hno
    have hm := one_miss (s.extract a s.size) (fun j => by
      rw [at_]
      by_cases q : a + j < i
      · exact hno _ (by omega) q
      · rw [List.getElem?_eq_none (by rw [data_length]; omega)]; simp)
    rw [Lib.splitB_miss _ _ _ _ hm]; rfl
  | succ d ih =>
    intro a i ha hi hno
    unfold cutFrom
    by_cases hb : bt s (i : Int) = 46
    · rw [if_pos hb]
      have hh := one_hit (s.extract a s.size) (i - a) (by rw [at_, show a + (i - a) = i by omega]; exact (bt_46 s i).1 hb) (fun j hj => by rw [at_]; exact hno _ (by omega) (by omega))
      have hsz : (s.extract a s.size).size = s.size - a := by simp
      have hr : (s.extract a s.size).extract (i - a + (⟨#[46]⟩ : ByteArray).size) (s.extract a s.size).size = s.extract (i + 1) s.size := by
        rw [hsz, show (⟨#[46]⟩ : ByteArray).size = 1 from rfl, ex_ex s a _ _ (by omega), show a + (i - a + 1) = i + 1 by omega, show a + (s.size - a) = s.size by omega]
      rw [Lib.countB_hit _ _ (i - a) (by decide) hh, hr, Nat.add_comm 1, Lib.splitB_hit _ _ _ _ (i - a) hh, hr, ← ih (i + 1) (i + 1) (Nat.le_refl _) (by omega) (fun j h1 h2 => by omega)]
      rw [ex_ex s a 0 (i - a + 0) (by omega), show a + 0 = a from rfl, show a + (i - a + 0) = i by omega]
    · rw [if_neg hb]
      exact ih a (i + 1) (by omega) (by omega) (fun j h1 h2 => by
        by_cases q : j = i
        · rw [q]; exact fun e => hb ((bt_46 s i).2 e)
        · exact hno j h1 (by omega))
theorem cut_pieces (s : ByteArray) : cutFrom s 0 0 s.size = pieces s := by
  have h := cut_split s s.size 0 0 (Nat.le_refl _) (by omega) (fun j _ h => by omega)
  rw [h]
  have e : s.extract 0 s.size = s := by
    apply toList_inj
    rw [toList_data, toList_data, ex_list, List.drop_zero, List.take_of_length_le (by rw [data_length]; omega)]
  rw [e]; rfl
theorem cut_l0 (s : ByteArray) (hs : s.size ≤ 1048576) (d : Nat) : ∀ (a i : Nat) (x : List ByteArray), a ≤ i → i + d = s.size → x.length ≤ i → Ev (fun k => spec_l00Cut.l0 k s 46 x (a : Int) (i : Int)) (x ++ cutFrom s a i d) := by
  induction d with
  | zero =>
    intro a i x ha hi hx
    refine Ev.step (f := fun _ => some _) (fun k => ?_) (Ev.now _)
    simp only [spec_l00Cut.l0, Int.toNat_natCast]; rw [if_neg (by omega), if_pos (by omega), if_pos (by omega), if_pos (by omega)]; rfl
  | succ d ih =>
    intro a i x ha hi hx
    have hw : wrap64 ((i : Int) + 1) = ((i + 1 : Nat) : Int) := by rw [wrap64_id (by omega) (by omega)]; omega
    unfold cutFrom
    by_cases hb : bt s (i : Int) = 46
    · rw [if_pos hb]
      have h := ih (i + 1) (i + 1) (x ++ [s.extract a i]) (Nat.le_refl _) (by omega) (by simp; omega)
      rw [List.append_assoc] at h
      refine Ev.step (fun k => ?_) h
      simp only [spec_l00Cut.l0, hw, Int.toNat_natCast]; rw [if_pos (by omega), if_pos (by omega), if_pos hb, if_pos (by omega), if_pos (by omega), if_pos (by omega), if_pos (by omega)]
    · rw [if_neg hb]
      refine Ev.step (fun k => ?_) (ih a (i + 1) x (by omega) (by omega) (by omega))
      simp only [spec_l00Cut.l0, hw]; rw [if_pos (by omega), if_pos (by omega), if_neg hb]
theorem cut_ev (s : ByteArray) (hs : s.size ≤ 1048576) : Ev (fun k => spec_l00Cut.f k s 46) (pieces s) := by
  have h := cut_l0 s hs s.size 0 0 [] (Nat.le_refl _) (by omega) (by simp)
  rw [List.nil_append, cut_pieces] at h
  exact Ev.congr (fun k => by unfold spec_l00Cut.f; rfl) h
theorem cut_size (s : ByteArray) (d : Nat) : ∀ a i : Nat, ∀ x ∈ cutFrom s a i d, x.size ≤ s.size := by
  induction d with
  | zero => intro a i x hx; simp only [cutFrom, List.mem_singleton] at hx; subst hx; simp
  | succ d ih =>
    intro a i x hx
    unfold cutFrom at hx
    by_cases hb : bt s (i : Int) = 46
    · rw [if_pos hb] at hx
      rcases List.mem_cons.1 hx with e | e
      · subst e; simp; omega
      · exact ih _ _ x e
    · rw [if_neg hb] at hx; exact ih _ _ x hx
theorem piece_size (s x : ByteArray) (h : x ∈ pieces s) : x.size ≤ s.size := cut_size s s.size 0 0 x (by rw [cut_pieces]; exact h)
/-! ### a piece, byte by byte -/
def letv (b : Int) : Bool := (impl_isLetter.f b).getD false
def digv (b : Int) : Bool := (impl_isDigit.f b).getD false
theorem let_i (b : Int) : impl_isLetter.f b = some (letv b) := by
  unfold letv impl_isLetter.f
  repeat' split
  all_goals rfl
theorem let_s (b : Int) : spec_l00Letter.f b = some (letv b) := let_i b
theorem dig_i (b : Int) : impl_isDigit.f b = some (digv b) := by
  unfold digv impl_isDigit.f
  split <;> rfl
theorem dig_s (b : Int) : spec_l00Digit.f b = some (digv b) := dig_i b
def okb (b : Int) : Bool := letv b || (digv b || decide (b = 45))
def okFrom (s : ByteArray) (i : Nat) : Nat → Bool
  | 0 => true
  | d + 1 => okb (bt s (i : Int)) && okFrom s (i + 1) d
def sz20 (s : ByteArray) : Bool := decide (1 ≤ (s.size : Int) ∧ (s.size : Int) ≤ 20)
def pok (s : ByteArray) : Bool := okFrom s 0 s.size && sz20 s
theorem in_i (s : ByteArray) : impl_within.f (s.size : Int) 1 20 = some (sz20 s) := by
  unfold impl_within.f sz20
  by_cases h : (s.size : Int) ≥ 1
  · rw [if_pos h]; congr 1; apply decide_eq_decide.2; exact ⟨fun q => ⟨h, q⟩, fun q => q.2⟩
  · rw [if_neg h]; congr 1; symm; apply decide_eq_false; intro q; exact h q.1
theorem in_s (s : ByteArray) : spec_l01In.f (s.size : Int) 1 20 = some (sz20 s) := in_i s
theorem part_l0 (s : ByteArray) (hs : s.size ≤ 1048576) (d : Nat) : ∀ i : Nat, i + d = s.size → Ev (fun k => impl_partOK.l0 k s (s.size : Int) (i : Int)) (okFrom s i d && sz20 s) := by
  induction d with
  | zero =>
    intro i hi
    refine Ev.step (f := fun _ => some _) (fun k => ?_) (Ev.now _)
    simp only [impl_partOK.l0, in_i, Option.bind_some, okFrom, Bool.true_and]; rw [if_neg (by omega)]
  | succ d ih =>
    intro i hi
    have hw : wrap64 ((i : Int) + 1) = ((i + 1 : Nat) : Int) := by rw [wrap64_id (by omega) (by omega)]; omega
    have h := ih (i + 1) (by omega)
    unfold okFrom okb
    cases h1 : letv (bt s (i : Int)) with
    | true =>
      rw [Bool.true_or, Bool.true_and]
      refine Ev.step (fun k => ?_) h
      simp only [impl_partOK.l0, let_i, dig_i, Option.bind_some, hw, h1]; rw [if_pos (by omega), if_pos (by omega), if_pos (by omega), if_pos trivial]
    | false =>
      rw [Bool.false_or]
      cases h2 : digv (bt s (i : Int)) with
      | true =>
        rw [Bool.true_or, Bool.true_and]
        refine Ev.step (fun k => ?_) h
        simp only [impl_partOK.l0, let_i, dig_i, Option.bind_some, hw, h1, h2]; rw [if_pos (by omega), if_pos (by omega), if_pos (by omega), if_neg (by simp), if_pos trivial]
      | false =>
        rw [Bool.false_or]
        by_cases h3 : bt s (i : Int) = 45
        · rw [decide_eq_true h3, Bool.true_and]
          refine Ev.step (fun k => ?_) h
          simp only [impl_partOK.l0, let_i, dig_i, Option.bind_some, hw, h1, h2]; rw [if_pos (by omega), if_pos (by omega), if_pos (by omega), if_neg (by simp), if_neg (by simp), if_pos h3]
        · rw [decide_eq_false h3, Bool.false_and, Bool.false_and]
          refine Ev.step (f := fun _ => some false) (fun k => ?_) (Ev.now _)
          simp only [impl_partOK.l0, let_i, dig_i, Option.bind_some, hw, h1, h2]; rw [if_pos (by omega), if_pos (by omega), if_pos (by omega), if_neg (by simp), if_neg (by simp), if_neg h3]
theorem part_ev (s : ByteArray) (hs : s.size ≤ 1048576) : Ev (fun k => impl_partOK.f k s) (pok s) :=
  Ev.congr (fun k => by unfold impl_partOK.f; rfl) (part_l0 s hs s.size 0 (by omega))
theorem rdP (L : List ByteArray) (q : Nat) (h : q < L.length) : rdOf ByteArray.empty L (q : Int) = L[q] := by
  simp [rdOf, List.getD_eq_getElem?_getD, h]
theorem sp_l1 (L : List ByteArray) (hL : L.length ≤ 1048577) (q : Nat) (hq : q < L.length) (hs : (L[q]).size ≤ 1048576) (r : Bool) (h : Ev (fun k => spec_DnsNameOK.l0 k L ((q + 1 : Nat) : Int)) r) (d : Nat) : ∀ j : Nat, j + d = (L[q]).size → Ev (fun k => spec_DnsNameOK.l1 k L (q : Int) (j : Int)) (if okFrom (L[q]) j d = true then r else false) := by
  have hw : wrap64 ((q : Int) + 1) = ((q + 1 : Nat) : Int) := by rw [wrap64_id (by omega) (by omega)]; omega
  induction d with
  | zero =>
    intro j hj
    rw [show okFrom (L[q]) j 0 = true from rfl, if_pos rfl]
    refine Ev.step (fun k => ?_) h
    simp only [spec_DnsNameOK.l1, rdP L q hq, hw]; rw [if_pos (by omega), if_pos (by omega), if_neg (by omega)]
  | succ d ih =>
    intro j hj
    have hw2 : wrap64 ((j : Int) + 1) = ((j + 1 : Nat) : Int) := by rw [wrap64_id (by omega) (by omega)]; omega
    have h4 := ih (j + 1) (by omega)
    unfold okFrom okb
    cases h1 : letv (bt (L[q]) (j : Int)) with
    | true =>
      rw [Bool.true_or, Bool.true_and]
      refine Ev.step (fun k => ?_) h4
      simp only [spec_DnsNameOK.l1, rdP L q hq, let_s, dig_s, Option.bind_some, hw2, h1]; rw [if_pos (by omega), if_pos (by omega), if_pos (by omega), if_pos (by omega), if_pos trivial]
    | false =>
      rw [Bool.false_or]
      cases h2 : digv (bt (L[q]) (j : Int)) with
      | true =>
        rw [Bool.true_or, Bool.true_and]
        refine Ev.step (fun k => ?_) h4
        simp only [spec_DnsNameOK.l1, rdP L q hq, let_s, dig_s, Option.bind_some, hw2, h1, h2]; rw [if_pos (by omega), if_pos (by omega), if_pos (by omega), if_pos (by omega), if_neg (by simp), if_pos trivial]
      | false =>
        rw [Bool.false_or]
        by_cases h3 : bt (L[q]) (j : Int) = 45
        · rw [decide_eq_true h3, Bool.true_and]
          refine Ev.step (fun k => ?_) h4
          simp only [spec_DnsNameOK.l1, rdP L q hq, let_s, dig_s, Option.bind_some, hw2, h1, h2]; rw [if_pos (by omega), if_pos (by omega), if_pos (by omega), if_pos (by omega), if_neg (by simp), if_neg (by simp), if_pos h3]
        · rw [decide_eq_false h3, Bool.false_and, if_neg (by simp)]
          refine Ev.step (f := fun _ => some false) (fun k => ?_) (Ev.now _)
          simp only [spec_DnsNameOK.l1, rdP L q hq, let_s, dig_s, Option.bind_some, hw2, h1, h2]; rw [if_pos (by omega), if_pos (by omega), if_pos (by omega), if_pos (by omega), if_neg (by simp), if_neg (by simp), if_neg h3]
theorem sp_l0 (L : List ByteArray) (hL : L.length ≤ 1048577) (hs : ∀ x ∈ L, x.size ≤ 1048576) (d : Nat) : ∀ q : Nat, q + d = L.length → Ev (fun k => spec_DnsNameOK.l0 k L (q : Int)) ((L.drop q).all pok) := by
  induction d with
  | zero =>
    intro q hq
    rw [List.drop_eq_nil_of_le (by omega)]
    refine Ev.step (f := fun _ => some true) (fun k => ?_) (Ev.now _)
    simp only [spec_DnsNameOK.l0]; rw [if_neg (by omega)]
  | succ d ih =>
    intro q hq
    have hq' : q < L.length := by omega
    have h := sp_l1 L hL q hq' (hs _ (List.getElem_mem hq')) _ (ih (q + 1) (by omega)) (L[q]).size 0 (by omega)
    rw [List.drop_eq_getElem_cons hq', List.all_cons]
    unfold pok at h ⊢
    cases hz : sz20 L[q] with
    | true =>
      rw [Bool.and_true]
      have e : (if okFrom L[q] 0 (L[q]).size = true then ((L.drop (q + 1)).all fun s => okFrom s 0 s.size && sz20 s) else false) = (okFrom L[q] 0 (L[q]).size && ((L.drop (q + 1)).all fun s => okFrom s 0 s.size && sz20 s)) := by
        cases okFrom L[q] 0 (L[q]).size <;> rfl
      refine Ev.step (fun k => ?_) (e ▸ h)
      simp only [spec_DnsNameOK.l0, rdP L q hq', in_s, Option.bind_some, hz]; rw [if_pos (by omega), if_pos (by omega), if_pos trivial]; rfl
    | false =>
      rw [Bool.and_false, Bool.false_and]
      refine Ev.step (f := fun _ => some false) (fun k => ?_) (Ev.now _)
      simp only [spec_DnsNameOK.l0, rdP L q hq', in_s, Option.bind_some, hz]; rw [if_pos (by omega), if_pos (by omega), if_neg (by simp)]
theorem pieces_length (s : ByteArray) : (pieces s).length = Lib.countB s ⟨#[46]⟩ + 1 := Lib.splitB_all ⟨#[46]⟩ (by decide) 0 _ s rfl
theorem spec_ev (s : ByteArray) (hs : s.size ≤ 1048576) : Ev (fun k => spec_DnsNameOK.f k s) (dnsv pok s) := by
  have hl : (pieces s).length ≤ 1048577 := by
    have := Lib.countB_le ⟨#[46]⟩ (by decide) s.size s (Nat.le_refl _)
    rw [pieces_length]; omega
  unfold dnsv
  by_cases h1 : (s.size : Int) > 65536
  · rw [if_pos (by omega)]
    exact Ev.congr (f := fun _ => some false) (fun k => by unfold spec_DnsNameOK.f; rw [if_pos h1]) (Ev.now _)
  · refine Ev.congr (fun k => by unfold spec_DnsNameOK.f; rw [if_neg h1]) (Ev.bind (cut_ev s hs) ?_)
    by_cases h2 : (s.size : Int) > 80
    · rw [if_pos h2]
      refine Ev.congr (fun k => by rw [if_pos h2]) (Ev.step (f := fun _ => some false) (fun k => ?_) (Ev.now _))
      simp only [spec_DnsNameOK.j0]; rw [if_pos trivial]
    · rw [if_neg h2]
      refine Ev.congr (fun k => by rw [if_neg h2]) ?_
      by_cases h3 : (pieces s).length ≤ 8
      · rw [decide_eq_true h3, Bool.true_and, decide_eq_false (by omega)]
        have h := sp_l0 (pieces s) hl (fun x hx => Nat.le_trans (piece_size s x hx) hs) (pieces s).length 0 (by omega)
        rw [List.drop_zero] at h
        refine Ev.step (fun k => ?_) h
        simp only [spec_DnsNameOK.j0]; rw [if_neg (by simp)]; rfl
      · rw [decide_eq_false h3, Bool.false_and, decide_eq_true (by omega)]
        refine Ev.step (f := fun _ => some false) (fun k => ?_) (Ev.now _)
        simp only [spec_DnsNameOK.j0]; rw [if_pos trivial]
-- SAYS: DnsBytes: a right question for a name is the same row to both; what is not right is refused alike; the program's row is its caller's own.
-- USES: Bytes Eq Mark Be Str Concat2 Cut
-- IMPORTS: Derived.Lib.SplitLaws Derived.Lib.CountLaws Derived.Lib.IndexBytes Derived.Lib.CutLaws
theorem allOK_ev (l : List ByteArray) (hs : ∀ x ∈ l, x.size ≤ 1048576) : Ev (fun k => allOK k l) (l.map pok) := by
  induction l with
  | nil => exact Ev.congr (f := fun _ => some []) (fun k => rfl) (Ev.now _)
  | cons x xs ih =>
    refine Ev.congr (fun k => by unfold allOK; rfl) (Ev.bind (part_ev x (hs x (by simp))) ?_)
    exact Ev.bind (ih (fun y hy => hs y (by simp [hy]))) (Ev.now _)
theorem impl_dns_ev (s : ByteArray) (hs : s.size ≤ 1048576) : Ev (fun k => impl_DnsNameOK.f k s) (dnsv pok s) := by
  unfold dnsv
  by_cases h : (s.size : Int) > 80
  · rw [if_pos h]
    exact Ev.congr (f := fun _ => some false) (fun k => by unfold impl_DnsNameOK.f; rw [if_pos h]) (Ev.now _)
  · rw [if_neg h]
    refine Ev.congr (fun k => by unfold impl_DnsNameOK.f; rw [if_neg h]) (Ev.bind (allOK_ev (pieces s) (fun x hx => Nat.le_trans (piece_size s x hx) hs)) ?_)
    exact Ev.congr (f := fun _ => some _) (fun k => by rw [List.all_map]; rfl) (Ev.now _)
theorem impl_ok_ev (id ty : Int) (b : Bool) (s : ByteArray) (hs : s.size ≤ 1048576) : Ev (fun k => impl_dnsOK.f k id ty b s) (decide (0 ≤ id ∧ id ≤ 65535) && (decide (0 ≤ ty ∧ ty ≤ 65535) && dnsv pok s)) := by
  have w : ∀ a : Int, impl_isPort.f a = some (decide (0 ≤ a ∧ a ≤ 65535)) := fun a => by
    unfold impl_isPort.f impl_within.f
    by_cases h : a ≥ 0
    · rw [if_pos h, Option.bind_some]; congr 1; apply decide_eq_decide.2; omega
    · rw [if_neg h, Option.bind_some]; congr 1; symm; apply decide_eq_false; omega
  cases h1 : decide (0 ≤ id ∧ id ≤ 65535) with
  | false => exact Ev.congr (f := fun _ => some false) (fun k => by unfold impl_dnsOK.f; rw [w, Option.bind_some, h1, if_neg (by simp)]) (Ev.now _)
  | true =>
    cases h2 : decide (0 ≤ ty ∧ ty ≤ 65535) with
    | false => exact Ev.congr (f := fun _ => some false) (fun k => by unfold impl_dnsOK.f; rw [w, Option.bind_some, h1, if_pos rfl, w, Option.bind_some, h2, if_neg (by simp)]) (Ev.now _)
    | true =>
      rw [Bool.true_and, Bool.true_and]
      refine Ev.congr (fun k => by unfold impl_dnsOK.f; rw [w, Option.bind_some, h1, if_pos rfl, w, Option.bind_some, h2, if_pos rfl]) (Ev.bind (impl_dns_ev s hs) (Ev.now _))
theorem spec_ok_ev (id ty : Int) (b : Bool) (s : ByteArray) (hs : s.size ≤ 1048576) : Ev (fun k => spec_l03Dns.f k id ty b s) (decide (0 ≤ id ∧ id ≤ 65535) && (decide (0 ≤ ty ∧ ty ≤ 65535) && dnsv pok s)) := by
  have w : ∀ a : Int, spec_l01In.f a 0 65535 = some (decide (0 ≤ a ∧ a ≤ 65535)) := fun a => by
    unfold spec_l01In.f
    by_cases h : 0 ≤ a
    · rw [if_pos h]; congr 1; apply decide_eq_decide.2; omega
    · rw [if_neg h]; congr 1; symm; apply decide_eq_false; omega
  cases h1 : decide (0 ≤ id ∧ id ≤ 65535) with
  | false => exact Ev.congr (f := fun _ => some false) (fun k => by unfold spec_l03Dns.f; rw [w, Option.bind_some, h1, if_neg (by simp)]) (Ev.now _)
  | true =>
    cases h2 : decide (0 ≤ ty ∧ ty ≤ 65535) with
    | false => exact Ev.congr (f := fun _ => some false) (fun k => by unfold spec_l03Dns.f; rw [w, Option.bind_some, h1, if_pos rfl, w, Option.bind_some, h2, if_neg (by simp)]) (Ev.now _)
    | true =>
      rw [Bool.true_and, Bool.true_and]
      refine Ev.congr (fun k => by unfold spec_l03Dns.f; rw [w, Option.bind_some, h1, if_pos rfl, w, Option.bind_some, h2, if_pos rfl]) (Ev.bind (spec_ev s hs) (Ev.now _))
/-! ### the labels -/
def lab (x : ByteArray) : List Int := (x.size : Int) % 256 :: bytesOf x
def labs (L : List ByteArray) : List Int := (L.map lab).flatten
theorem impl_labs_l0 (id ty : Int) (b : Bool) (s : ByteArray) (L : List ByteArray) (hL : L.length ≤ 8) (hx : ∀ x ∈ L, x.size ≤ 20) (d : Nat) : ∀ (i : Nat) (o : List Int), i + d = L.length → o.length ≤ 100 + 21 * i → Ev (fun k => impl_dnsBytes.l0 k o L (L.length : Int) (i : Int) id ty b s) ((o ++ labs (L.drop i)) ++ ([0] ++ (beL ty 2 ++ beL 1 2))) := by
  induction d with
  | zero =>
    intro i o hi ho
    rw [List.drop_eq_nil_of_le (by omega)]
    have hc := concat_ev [o, [0], beL ty 2, beL 1 2] (by simp) (by simp [beL_length]; omega)
    refine Ev.step (fun k => by simp only [impl_dnsBytes.l0]; rw [if_neg (by omega)]) ?_
    refine Ev.bind (impl_be_ev ty 2 (by omega)) (Ev.bind (impl_be_ev 1 2 (by omega)) (Ev.bind hc ?_))
    exact Ev.congr (f := fun _ => some _) (fun k => by simp [labs]) (Ev.now _)
  | succ d ih =>
    intro i o hi ho
    have hw : wrap64 ((i : Int) + 1) = ((i + 1 : Nat) : Int) := by rw [wrap64_id (by omega) (by omega)]; omega
    have hi' : i < L.length := by omega
    have h20 := hx _ (List.getElem_mem hi')
    have h := ih (i + 1) ((o ++ [((L[i]).size : Int) % 256]) ++ bytesOf L[i]) (by omega) (by simp [bytesOf_len]; omega)
    rw [List.drop_eq_getElem_cons hi']
    have e : labs (L[i] :: L.drop (i + 1)) = lab L[i] ++ labs (L.drop (i + 1)) := by unfold labs; rw [List.map_cons, List.flatten_cons]
    rw [e, show o ++ (lab L[i] ++ labs (L.drop (i + 1))) = ((o ++ [((L[i]).size : Int) % 256]) ++ bytesOf L[i]) ++ labs (L.drop (i + 1)) by simp [lab]]
    refine Ev.step (fun k => ?_) h
    simp only [impl_dnsBytes.l0, hw, rdP L i hi', Option.bind_some]; rw [if_pos (by omega), if_pos (by omega), if_pos (by omega), if_pos (by omega), if_pos (by simp; omega)]
theorem lab_str (x : ByteArray) : strOfNums (beL (x.size : Int) 1) ++ x = strOfNums (lab x) := by
  have e : beL (x.size : Int) 1 = [(x.size : Int) % 256] := by
    show [(x.size : Int) / 2 ^ (8 * 0) % 256] = _
    rw [show (2 : Int) ^ (8 * 0) = 1 from rfl, Int.ediv_one]
  rw [e]
  conv => lhs; rw [← str_bytesOf x]
  rw [str_app]
  conv => lhs; rw [str_bytesOf x]
  rfl
theorem spec_labs_l0 (id ty : Int) (b : Bool) (s : ByteArray) (L : List ByteArray) (hL : L.length ≤ 8) (hx : ∀ x ∈ L, x.size ≤ 20) (d : Nat) : ∀ (i : Nat) (o : ByteArray), i + d = L.length → o.size ≤ 100 + 21 * i → Ev (fun k => spec_l03DnsBytes.l0 k o L (i : Int) id ty b s) ((((o ++ strOfNums (labs (L.drop i))) ++ (⟨#[0]⟩ : ByteArray)) ++ strOfNums (beL ty 2)) ++ (⟨#[0, 1]⟩ : ByteArray)) := by
  have e1 : (⟨#[0]⟩ : ByteArray).size = 1 := rfl
  induction d with
  | zero =>
    intro i o hi ho
    rw [List.drop_eq_nil_of_le (by omega)]
    have hz : o ++ strOfNums (labs []) = o := by
      apply toList_inj; rw [toList_data, toList_data, ByteArray.data_append, Array.toList_append]; simp [labs, strOfNums]
    rw [hz]
    refine Ev.step (fun k => by simp only [spec_l03DnsBytes.l0]; rw [if_neg (by omega), if_pos (by omega)]) ?_
    refine Ev.bind (spec_number_ev ty 2 (by omega)) ?_
    exact Ev.congr (f := fun _ => some _) (fun k => by rw [if_pos (by simp only [size_app, str_size, beL_length, e1]; omega), if_pos (by simp only [size_app, str_size, beL_length, e1]; omega)]) (Ev.now _)
  | succ d ih =>
    intro i o hi ho
    have hw : wrap64 ((i : Int) + 1) = ((i + 1 : Nat) : Int) := by rw [wrap64_id (by omega) (by omega)]; omega
    have hi' : i < L.length := by omega
    have h20 := hx _ (List.getElem_mem hi')
    have hsz : (strOfNums (lab L[i])).size = 1 + (L[i]).size := by rw [str_size]; simp [lab, bytesOf_len]; omega
    have h := ih (i + 1) (o ++ strOfNums (lab L[i])) (by omega) (by rw [size_app, hsz]; omega)
    rw [List.drop_eq_getElem_cons hi']
    have e : o ++ strOfNums (labs (L[i] :: L.drop (i + 1))) = (o ++ strOfNums (lab L[i])) ++ strOfNums (labs (L.drop (i + 1))) := by
      have e2 : labs (L[i] :: L.drop (i + 1)) = lab L[i] ++ labs (L.drop (i + 1)) := by unfold labs; rw [List.map_cons, List.flatten_cons]
      rw [e2, ← str_app, ByteArray.append_assoc]
    rw [e]
    refine Ev.step (fun k => by simp only [spec_l03DnsBytes.l0, hw, rdP L i hi']; rw [if_pos (by omega), if_pos (by omega)]) ?_
    refine Ev.bind (spec_number_ev ((L[i]).size : Int) 1 (by omega)) ?_
    refine Ev.congr (fun k => ?_) h
    rw [lab_str, if_pos (by rw [str_size, beL_length]; omega), if_pos (by rw [hsz]; omega)]
theorem dnsv_ok (s : ByteArray) (h : dnsv pok s = true) : (pieces s).length ≤ 8 ∧ (∀ x ∈ pieces s, x.size ≤ 20) ∧ s.size ≤ 80 := by
  unfold dnsv at h
  by_cases c : (s.size : Int) > 80
  · rw [if_pos c] at h; cases h
  · rw [if_neg c, Bool.and_eq_true, List.all_eq_true] at h
    refine ⟨of_decide_eq_true h.1, fun x hx => ?_, by omega⟩
    have := h.2 x hx
    unfold pok sz20 at this
    rw [Bool.and_eq_true] at this
    have := of_decide_eq_true this.2
    omega
def headL (id fl : Int) : List Int := ([beL id 2, beL fl 2, beL 1 2, List.replicate 6 0] : List (List Int)).flatten
theorem headL_len (id fl : Int) : (headL id fl).length = 12 := by simp [headL, beL_length]
theorem impl_j0_ev (fl id ty : Int) (b : Bool) (s : ByteArray) (h : dnsv pok s = true) : Ev (fun k => impl_dnsBytes.j0 k fl id ty b s) ((headL id fl ++ labs (pieces s)) ++ ([0] ++ (beL ty 2 ++ beL 1 2))) := by
  obtain ⟨h1, h2, h3⟩ := dnsv_ok s h
  have hc := concat_ev [beL id 2, beL fl 2, beL 1 2, List.replicate 6 0] (by simp) (by simp [beL_length])
  have hl := impl_labs_l0 id ty b s (pieces s) h1 h2 (pieces s).length 0 (headL id fl) (by omega) (by rw [headL_len]; omega)
  rw [List.drop_zero] at hl
  have hsp : strings_Split.f s (⟨#[46]⟩ : ByteArray) = some (pieces s) := by unfold strings_Split.f; rw [if_pos (by decide), if_pos (by omega)]; rfl
  refine Ev.step (fun k => by simp only [impl_dnsBytes.j0]; rfl) ?_
  refine Ev.bind (impl_be_ev id 2 (by omega)) (Ev.bind (impl_be_ev fl 2 (by omega)) (Ev.bind (impl_be_ev 1 2 (by omega)) ?_))
  refine Ev.congr (fun k => by rw [if_pos (by decide)]) (Ev.bind hc ?_)
  exact Ev.congr (fun k => by rw [hsp, Option.bind_some]; rfl) hl
theorem spec_j0_ev (x3 : ByteArray) (hx3 : x3.size = 2) (id ty : Int) (b : Bool) (s : ByteArray) (h : dnsv pok s = true) : Ev (fun k => spec_l03DnsBytes.j0 k x3 id ty b s) ((((((strOfNums (beL id 2) ++ x3) ++ (⟨#[0, 1, 0, 0, 0, 0, 0, 0]⟩ : ByteArray)) ++ strOfNums (labs (pieces s))) ++ (⟨#[0]⟩ : ByteArray)) ++ strOfNums (beL ty 2)) ++ (⟨#[0, 1]⟩ : ByteArray)) := by
  obtain ⟨h1, h2, h3⟩ := dnsv_ok s h
  have e8 : (⟨#[0, 1, 0, 0, 0, 0, 0, 0]⟩ : ByteArray).size = 8 := rfl
  have hl := spec_labs_l0 id ty b s (pieces s) h1 h2 (pieces s).length 0 ((strOfNums (beL id 2) ++ x3) ++ (⟨#[0, 1, 0, 0, 0, 0, 0, 0]⟩ : ByteArray)) (by omega) (by simp only [size_app, str_size, beL_length, e8]; omega)
  rw [List.drop_zero] at hl
  refine Ev.step (fun k => by simp only [spec_l03DnsBytes.j0]; rfl) ?_
  refine Ev.bind (spec_number_ev id 2 (by omega)) ?_
  refine Ev.congr (fun k => by rw [if_pos (by simp only [str_size, beL_length]; omega), if_pos (by simp only [size_app, str_size, beL_length]; omega)]) ?_
  exact Ev.bind (cut_ev s (by omega)) hl
theorem labs_bytes (L : List ByteArray) : Bytes (labs L) := by
  intro x hx
  unfold labs at hx
  obtain ⟨l, hl, hx⟩ := List.mem_flatten.1 hx
  obtain ⟨y, _, rfl⟩ := List.mem_map.1 hl
  rcases List.mem_cons.1 hx with e | e
  · subst e; omega
  · exact bytesOf_bytes y x e
theorem both_rows (id ty fl : Int) (x3 : ByteArray) (L : List ByteArray) (hx : bytesOf x3 = beL fl 2) : bytesOf ((((((strOfNums (beL id 2) ++ x3) ++ (⟨#[0, 1, 0, 0, 0, 0, 0, 0]⟩ : ByteArray)) ++ strOfNums (labs L)) ++ (⟨#[0]⟩ : ByteArray)) ++ strOfNums (beL ty 2)) ++ (⟨#[0, 1]⟩ : ByteArray)) = (headL id fl ++ labs L) ++ ([0] ++ (beL ty 2 ++ beL 1 2)) := by
  have e1 : bytesOf (⟨#[0, 1, 0, 0, 0, 0, 0, 0]⟩ : ByteArray) = [0, 1, 0, 0, 0, 0, 0, 0] := by decide +kernel
  have e2 : bytesOf (⟨#[0]⟩ : ByteArray) = [0] := by decide +kernel
  have e3 : bytesOf (⟨#[0, 1]⟩ : ByteArray) = [0, 1] := by decide +kernel
  have e4 : beL 1 2 = [0, 1] := by decide +kernel
  have e6 : List.replicate 6 (0 : Int) = [0, 0, 0, 0, 0, 0] := rfl
  simp only [bytesOf_app, bytesOf_str (beL_bytes _ _), bytesOf_str (labs_bytes _), e1, e2, e3, e4, e6, hx, headL, List.flatten_cons, List.flatten_nil, List.append_nil, List.append_assoc, List.cons_append, List.nil_append]
theorem dnsBytes_both (id ty : Int) (b : Bool) (s : ByteArray) (hs : s.size ≤ 1048576) : ∃ (r1 : List Int) (r2 : Int), r1.length ≤ 1000 ∧ Ev (fun k => spec_DnsBytes.f k id ty b s) (r1, r2) ∧ Ev (fun k => impl_DnsBytes.f k id ty b s) (r1, r2) := by
  have ho := spec_ok_ev id ty b s hs
  have hi := impl_ok_ev id ty b s hs
  cases hc : (decide (0 ≤ id ∧ id ≤ 65535) && (decide (0 ≤ ty ∧ ty ≤ 65535) && dnsv pok s)) with
  | false =>
    rw [hc] at ho hi
    refine ⟨[], 1, by simp, ?_, ?_⟩
    · exact Ev.congr (fun k => by unfold spec_DnsBytes.f; rfl) (Ev.bind ho (Ev.now _))
    · exact Ev.congr (fun k => by unfold impl_DnsBytes.f; rfl) (Ev.bind hi (Ev.now _))
  | true =>
    rw [hc] at ho hi
    have hd : dnsv pok s = true := by
      rw [Bool.and_eq_true, Bool.and_eq_true] at hc; exact hc.2.2
    obtain ⟨h1, h2, h3⟩ := dnsv_ok s hd
    have key : ∀ (fl : Int) (x3 : ByteArray), x3.size = 2 → bytesOf x3 = beL fl 2 → Ev (fun k => spec_l03DnsBytes.f k id ty b s) ((((((strOfNums (beL id 2) ++ x3) ++ (⟨#[0, 1, 0, 0, 0, 0, 0, 0]⟩ : ByteArray)) ++ strOfNums (labs (pieces s))) ++ (⟨#[0]⟩ : ByteArray)) ++ strOfNums (beL ty 2)) ++ (⟨#[0, 1]⟩ : ByteArray)) → Ev (fun k => impl_dnsBytes.f k id ty b s) ((headL id fl ++ labs (pieces s)) ++ ([0] ++ (beL ty 2 ++ beL 1 2))) → ∃ (r1 : List Int) (r2 : Int), r1.length ≤ 1000 ∧ Ev (fun k => spec_DnsBytes.f k id ty b s) (r1, r2) ∧ Ev (fun k => impl_DnsBytes.f k id ty b s) (r1, r2) := fun fl x3 e0 e hS hI => by
      have hlab : (labs (pieces s)).length ≤ 21 * (pieces s).length := by
        generalize pieces s = L at h2
        clear h1 hS hI
        induction L with
        | nil => simp [labs]
        | cons x xs ih =>
          have e2 : labs (x :: xs) = lab x ++ labs xs := by unfold labs; rw [List.map_cons, List.flatten_cons]
          have := ih (fun y hy => h2 y (by simp [hy]))
          have h20 := h2 x (by simp)
          rw [e2, List.length_append, List.length_cons]
          simp only [lab, List.length_cons, bytesOf_len]; omega
      have hr := both_rows id ty fl x3 (pieces s) e
      refine ⟨(headL id fl ++ labs (pieces s)) ++ ([0] ++ (beL ty 2 ++ beL 1 2)), 0, by simp only [List.length_append, headL_len, beL_length, List.length_cons, List.length_nil]; omega, ?_, ?_⟩
      · refine Ev.congr (fun k => by unfold spec_DnsBytes.f; rfl) (Ev.bind ho ?_)
        refine Ev.congr (fun k => by rw [if_pos rfl]) (Ev.bind hS ?_)
        rw [← hr]
        refine Ev.congr (f := fun _ => some _) (fun k => ?_) (Ev.now _)
        rw [if_pos]
        rw [← bytesOf_len, hr]; simp only [List.length_append, headL_len, beL_length, List.length_cons, List.length_nil]; omega
      · refine Ev.congr (fun k => by unfold impl_DnsBytes.f; rfl) (Ev.bind hi ?_)
        exact Ev.congr (fun k => by rw [if_pos rfl]) (Ev.bind hI (Ev.now _))
    cases b with
    | true =>
      refine key 33152 (⟨#[129, 128]⟩ : ByteArray) rfl (by decide +kernel) (Ev.congr (fun k => by unfold spec_l03DnsBytes.f; rw [if_pos rfl]) (spec_j0_ev _ rfl id ty true s hd)) (Ev.congr (fun k => by unfold impl_dnsBytes.f; rw [if_pos rfl]) (impl_j0_ev _ id ty true s hd))
    | false =>
      refine key 256 (⟨#[1, 0]⟩ : ByteArray) rfl (by decide +kernel) (Ev.congr (fun k => by unfold spec_l03DnsBytes.f; rw [if_neg (by simp)]) (spec_j0_ev _ rfl id ty false s hd)) (Ev.congr (fun k => by unfold impl_dnsBytes.f; rw [if_neg (by simp)]) (impl_j0_ev _ id ty false s hd))
theorem FnExactDnsBytes : laws_FnExactDnsBytes.Pure := by
  intro id ty b s _ _ hm
  apply Ev.rounds
  by_cases hz : wrap64 (1048576 - (s.size : Int)) < 0
  · refine Ev.congr (fun k => ?_) (Ev.now true)
    unfold laws_FnExactDnsBytes.f laws_szDns.f
    rw [if_pos hz, Option.bind_some, if_pos (by decide)]
  have hs : s.size ≤ 1048576 := by
    apply Classical.byContradiction
    intro h
    apply hz
    rw [wrap64_id (by omega) (by omega)]; omega
  obtain ⟨r1, r2, hl, hS, hI⟩ := dnsBytes_both id ty b s hs
  have hE := eqByteS_ev r1 (by omega)
  refine Ev.congr (fun k => by unfold laws_FnExactDnsBytes.f laws_szDns.f laws_toDns.f; rw [if_neg hz, Option.bind_some, if_neg hz, Option.bind_some]) ?_
  refine Ev.bind hS ?_
  refine Ev.congr (fun k => Option.bind_some _ _) ?_
  refine Ev.bind hI (Ev.bind hE ?_)
  simp only [if_true, bne_self_eq_false]
  refine Ev.step (fun k => by simp only [laws_FnExactDnsBytes.j0]; rw [if_neg (by decide)]) ?_
  refine Ev.bind (mark_ev r1 (by omega)) (Ev.bind (held_ev r1.length (by omega)) ?_)
  refine Ev.congr (fun k => by unfold laws_toDns.f; rw [if_neg (by omega), if_pos rfl, Option.bind_some]) ?_
  refine Ev.bind hI (Ev.bind hE ?_)
  simp only [if_true, bne_self_eq_false]
  refine Ev.step (fun k => by simp only [laws_FnExactDnsBytes.j1]; rw [if_neg (by decide)]) ?_
  refine Ev.bind (held_ev r1.length (by omega)) ?_
  refine Ev.congr (fun k => by rw [if_neg (by omega), if_pos rfl]) (Ev.now _)

end Go.Proofs.YtpnbhgoblgbdkaaDoor.Pure
