/- NumberBytes: the bytes of a number, high byte first, are the same row to both; what does not fit is refused alike; the program's row is its caller's own. -/
import Derived.Test.YthfhflgiblmooaaPNbx2
import Derived.Test.YthfhflgiblmooaaBase
set_option linter.unusedSimpArgs false
set_option linter.unusedVariables false
namespace Go.Proofs.Ythfhflgiblmooaa.Pure
open Go.RowKit Go.Proofs.Ythfhflgiblmooaa.PNb Go.Proofs.YthfhflgiblmooaaW.PrintWords Go.Proofs.YthfhflgiblmooaaW.PrintLast Go.Proofs.YthfhflgiblmooaaW.PrintMore Base

/-! ### rows of bytes and the strings of them -/
def Bytes (l : List Int) : Prop := ∀ x ∈ l, 0 ≤ x ∧ x < 256
theorem bytes_wf {l : List Int} (h : ∀ x ∈ l, (Lit.int .u8 x).wf = true) : Bytes l := fun x hx => wf_u8 (h x hx)
theorem bytes_take {l : List Int} (h : Bytes l) (n : Nat) : Bytes (l.take n) := fun x hx => h x (List.mem_of_mem_take hx)
theorem bytes_drop {l : List Int} (h : Bytes l) (n : Nat) : Bytes (l.drop n) := fun x hx => h x (List.mem_of_mem_drop hx)
theorem rd_nat (l : List Int) (i : Nat) : rd l (i : Int) = l.getD i 0 := by simp [rd]
theorem rd_at (l : List Int) (i : Nat) (h : i < l.length) : rd l (i : Int) = l[i] := by
  rw [rd_nat, List.getD_eq_getElem?_getD, List.getElem?_eq_getElem h]; rfl
theorem rd_byte {l : List Int} (h : Bytes l) (i : Nat) : 0 ≤ rd l (i : Int) ∧ rd l (i : Int) < 256 := by
  by_cases hi : i < l.length
  · rw [rd_at l i hi]; exact h _ (List.getElem_mem hi)
  · rw [rd_nat, List.getD_eq_getElem?_getD, List.getElem?_eq_none (by omega)]; simp
theorem str_bt {l : List Int} (h : Bytes l) (i : Nat) : bt (strOfNums l) (i : Int) = rd l (i : Int) := by
  rw [bt_nat, strOfNums_data, rd_nat, List.getD_eq_getElem?_getD, List.getD_eq_getElem?_getD, List.getElem?_map]
  by_cases hi : i < l.length
  · rw [List.getElem?_eq_getElem hi]
    simp only [Option.map_some, Option.getD_some]
    have := h _ (List.getElem_mem hi)
    rw [UInt8.toNat_ofNat']; omega
  · rw [List.getElem?_eq_none (by omega)]; rfl
theorem str_cut (l : List Int) (a b : Nat) : (strOfNums l).extract a b = strOfNums ((l.take b).drop a) := by
  apply toList_inj
  rw [toList_data, toList_data, strOfNums_data, ByteArray.data_extract, Array.toList_extract, List.extract_eq_take_drop, strOfNums_data, List.map_drop, List.map_take, List.drop_take]
theorem str_size (l : List Int) : (strOfNums l).size = l.length := strOfNums_size l

/-! ### the number of a row of bytes, high byte first -/
def num (l : List Int) : Int := l.foldl (fun n c => n * 256 + c) 0
theorem num_snoc (l : List Int) (c : Int) : num (l ++ [c]) = num l * 256 + c := by simp [num]
theorem num_take (l : List Int) (i : Nat) (h : i < l.length) : num (l.take (i + 1)) = num (l.take i) * 256 + l[i] := by
  rw [List.take_succ_eq_append_getElem h, num_snoc]
theorem num_0 {l : List Int} (h : Bytes l) : ∀ i, i ≤ l.length → 0 ≤ num (l.take i) ∧ num (l.take i) < 256 ^ i := by
  intro i
  induction i with
  | zero => intro _; rw [List.take_zero]; exact ⟨by decide, by decide⟩
  | succ i ih =>
    intro hi
    have h1 := ih (by omega)
    have h2 := h _ (List.getElem_mem (show i < l.length by omega))
    rw [num_take l i (by omega), Int.pow_succ]
    omega
theorem num_6 {l : List Int} (h : Bytes l) (i : Nat) (hi : i ≤ l.length) (h7 : i ≤ 6) : 0 ≤ num (l.take i) ∧ num (l.take i) < 281474976710656 := by
  have h1 := num_0 h i hi
  rcases (show i = 0 ∨ i = 1 ∨ i = 2 ∨ i = 3 ∨ i = 4 ∨ i = 5 ∨ i = 6 by omega) with e | e | e | e | e | e | e <;> rw [e] at h1 ⊢ <;> omega
theorem num_lt {l : List Int} (h : Bytes l) (n : Nat) (hn : l.length = n) : 0 ≤ num l ∧ num l < 256 ^ n := by
  have := num_0 h l.length (Nat.le_refl _)
  rw [List.take_length] at this; rw [hn] at this; exact this

/-! ### a row compared with itself -/
theorem eqByteS_l0 (l : List Int) (hl : l.length ≤ 1048576) (d : Nat) : ∀ (i : Nat), i + d = l.length → Ev (fun k => laws_eqByteS.l0 k l l (i : Int)) true := by
  induction d with
  | zero =>
    intro i hi
    refine Ev.step (f := fun _ => some true) (fun k => ?_) (Ev.now _)
    simp only [laws_eqByteS.l0]; rw [if_neg (by omega)]
  | succ d ih =>
    intro i hi
    have hw : wrap64 ((i : Int) + 1) = ((i + 1 : Nat) : Int) := by rw [wrap64_id (by omega) (by omega)]; omega
    refine Ev.step (f := fun k => laws_eqByteS.l0 k l l ((i + 1 : Nat) : Int)) (fun k => ?_) (ih (i + 1) (by omega))
    simp only [laws_eqByteS.l0, hw]; rw [if_pos (by omega), if_pos (by omega), if_pos (by omega), if_pos trivial]
theorem eqByteS_ev (l : List Int) (hl : l.length ≤ 1048576) : Ev (fun k => laws_eqByteS.f k l l) true := by
  refine Ev.congr (f := fun k => laws_eqByteS.l0 k l l ((0 : Nat) : Int)) (fun k => ?_) (eqByteS_l0 l hl l.length 0 (by omega))
  unfold laws_eqByteS.f
  rw [if_pos rfl]; rfl

/-! ### the marks that a law sets into a row, and finds there -/
def marks (n : Nat) : List Int := (List.range n).map fun (j : Nat) => (1 + (j : Int)) % 256
theorem marks_length (n : Nat) : (marks n).length = n := by simp [marks]
theorem marks_at (n i : Nat) (h : i < n) : (marks n)[i]? = some ((1 + (i : Int)) % 256) := by
  simp [marks, h]
theorem mark_l0 (d : Nat) : ∀ (i : Nat) (x : List Int), i + d = x.length → x.length ≤ 1000000000 → (∀ j : Nat, j < i → x[j]? = some ((1 + (j : Int)) % 256)) → Ev (fun k => laws_markByteS.l0 k x (1 + (i : Int)) (i : Int)) (1 + (x.length : Int), marks x.length) := by
  induction d with
  | zero =>
    intro i x hi hn hj
    have e : x = marks x.length := by
      apply List.ext_getElem?
      intro j
      by_cases h : j < i
      · rw [hj j h, marks_at _ j (by omega)]
      · rw [List.getElem?_eq_none (by omega), List.getElem?_eq_none (by rw [marks_length]; omega)]
    refine Ev.step (f := fun _ => some (1 + (x.length : Int), marks x.length)) (fun k => ?_) (Ev.now _)
    simp only [laws_markByteS.l0]; rw [if_neg (by omega), ← e, show (i : Int) = x.length by omega]
  | succ d ih =>
    intro i x hi hn hj
    have w1 : wrap64 ((i : Int) + 1) = ((i + 1 : Nat) : Int) := by rw [wrap64_id (by omega) (by omega)]; omega
    have w2 : wrap64 (1 + (i : Int) + 1) = 1 + ((i + 1 : Nat) : Int) := by rw [wrap64_id (by omega) (by omega)]; omega
    have h := ih (i + 1) (x.set i ((1 + (i : Int)) % 256)) (by simp; omega) (by simpa using hn) (fun j hji => ?_)
    · rw [List.length_set] at h
      refine Ev.step (fun k => ?_) h
      simp only [laws_markByteS.l0, w1, w2]; rw [if_pos (by omega), if_pos (by omega)]; rfl
    · by_cases hq : j = i
      · subst hq; rw [List.getElem?_set_self (by omega)]
      · rw [List.getElem?_set_ne (by omega)]; exact hj j (by omega)
theorem mark_ev (x : List Int) (hn : x.length ≤ 1000000000) : Ev (fun k => laws_markByteS.f k x 1) (1 + (x.length : Int), marks x.length) :=
  Ev.congr (fun k => rfl) (mark_l0 x.length 0 x (by omega) hn (fun j hj => by omega))
theorem held_l0 (n : Nat) (hn : n ≤ 1000000000) (d : Nat) : ∀ (i : Nat), i + d = n → Ev (fun k => laws_heldByteS.l0 k (marks n) (1 + (i : Int)) (i : Int)) (1 + (n : Int)) := by
  induction d with
  | zero =>
    intro i hi
    refine Ev.step (f := fun _ => some (1 + (n : Int))) (fun k => ?_) (Ev.now _)
    simp only [laws_heldByteS.l0, marks_length]; rw [if_neg (by omega), show (i : Int) = n by omega]
  | succ d ih =>
    intro i hi
    have w1 : wrap64 ((i : Int) + 1) = ((i + 1 : Nat) : Int) := by rw [wrap64_id (by omega) (by omega)]; omega
    have w2 : wrap64 (1 + (i : Int) + 1) = 1 + ((i + 1 : Nat) : Int) := by rw [wrap64_id (by omega) (by omega)]; omega
    have hr : rd (marks n) (i : Int) = (1 + (i : Int)) % 256 := by rw [rd_nat, List.getD_eq_getElem?_getD, marks_at n i (by omega)]; rfl
    refine Ev.step (fun k => ?_) (ih (i + 1) (by omega))
    simp only [laws_heldByteS.l0, marks_length, w1, w2, hr]; rw [if_pos (by omega), if_pos (by omega), if_pos trivial]
theorem held_ev (n : Nat) (hn : n ≤ 1000000000) : Ev (fun k => laws_heldByteS.f k (marks n) 1) (1 + (n : Int)) :=
  Ev.congr (fun k => rfl) (held_l0 n hn n 0 (by omega))

/-! ### the bytes of a number, high byte first -/
def beL (a : Int) : Nat → List Int
  | 0 => []
  | m + 1 => (a / 2 ^ (8 * m)) % 256 :: beL a m
theorem beL_length (a : Int) (m : Nat) : (beL a m).length = m := by
  induction m with
  | zero => rfl
  | succ m ih => simp [beL, ih]
theorem beL_bytes (a : Int) (m : Nat) : Bytes (beL a m) := by
  induction m with
  | zero => intro x hx; simp [beL] at hx
  | succ m ih =>
    intro x hx
    simp only [beL, List.mem_cons] at hx
    rcases hx with rfl | hx
    · exact ⟨Int.emod_nonneg _ (by decide), Int.emod_lt_of_pos _ (by decide)⟩
    · exact ih x hx
theorem bytesOf_str {l : List Int} (h : Bytes l) : bytesOf (strOfNums l) = l := by
  unfold bytesOf
  rw [strOfNums_data, List.map_map]
  conv => rhs; rw [← List.map_id l]
  apply List.map_congr_left
  intro x hx
  have := h x hx
  simp only [Function.comp, UInt8.toNat_ofNat', id]; omega
theorem str_app (x y : List Int) : strOfNums x ++ strOfNums y = strOfNums (x ++ y) := by
  apply toList_inj
  rw [toList_data, toList_data, ByteArray.data_append, Array.toList_append, strOfNums_data, strOfNums_data, strOfNums_data, List.map_append]
theorem shr_at (a : Int) (i : Nat) (h : i ≤ 7) : shr .i64 a ((8 * i : Nat) : Int) = a / 2 ^ (8 * i) := by
  show a / 2 ^ min (((8 * i : Nat) : Int)).toNat 64 = _
  rw [Int.toNat_natCast, Nat.min_eq_left (by omega)]
theorem w8 (i : Nat) (h : i ≤ 7) : wrap64 (8 * (i : Int)) = ((8 * i : Nat) : Int) := by rw [wrap64_id (by omega) (by omega)]; omega
theorem spec_number_l0 (a : Int) (m : Nat) : ∀ acc : List Int, m ≤ 8 → acc.length + m ≤ 1000 → Ev (fun k => spec_l01Number.l0 k a acc ((m : Int) - 1)) (strOfNums (acc ++ beL a m)) := by
  induction m with
  | zero =>
    intro acc _ _
    refine Ev.step (f := fun _ => some (strOfNums (acc ++ beL a 0))) (fun k => ?_) (Ev.now _)
    simp only [spec_l01Number.l0]; rw [if_neg (by omega), beL, List.append_nil]
  | succ m ih =>
    intro acc hm ha
    have e : ((m + 1 : Nat) : Int) - 1 = (m : Int) := by omega
    have u : IntKind.u64.wrap ((8 * m : Nat) : Int) = ((8 * m : Nat) : Int) := by rw [wrap_u64]; omega
    have w : wrap64 ((m : Int) - 1) = (m : Int) - 1 := wrap64_id (by omega) (by omega)
    have h := ih (acc ++ [(a / 2 ^ (8 * m)) % 256]) (by omega) (by simp; omega)
    rw [List.append_assoc] at h
    refine Ev.step (fun k => ?_) h
    simp only [spec_l01Number.l0, e, w8 m (by omega), u, w, shr_at a m (by omega)]
    rw [if_pos (by omega), if_pos (by omega), if_pos (by omega)]
theorem spec_number_ev (a : Int) (n : Nat) (hn : n ≤ 8) : Ev (fun k => spec_l01Number.f k a (n : Int)) (strOfNums (beL a n)) := by
  refine Ev.congr (fun k => ?_) (spec_number_l0 a n [] hn (by simp; omega))
  unfold spec_l01Number.f
  rw [wrap64_id (by omega) (by omega)]
theorem impl_be_l0 (a : Int) (n : Nat) (hn : n ≤ 8) (d : Nat) : ∀ i : Nat, i + d = n → Ev (fun k => impl_be.l0 k a (n : Int) (List.replicate (n - i) 0 ++ beL a i) (n : Int) (i : Int)) (beL a n) := by
  induction d with
  | zero =>
    intro i hi
    have : i = n := by omega
    subst this
    refine Ev.step (f := fun _ => some (beL a i)) (fun k => ?_) (Ev.now _)
    simp only [impl_be.l0]; rw [if_neg (by omega), Nat.sub_self]; rfl
  | succ d ih =>
    intro i hi
    have w1 : wrap64 ((i : Int) + 1) = ((i + 1 : Nat) : Int) := by rw [wrap64_id (by omega) (by omega)]; omega
    have w2 : wrap64 (wrap64 ((n : Int) - 1) - (i : Int)) = ((n - 1 - i : Nat) : Int) := by
      rw [wrap64_id (x := (n : Int) - 1) (by omega) (by omega), wrap64_id (by omega) (by omega)]; omega
    have hlen : (List.replicate (n - i) 0 ++ beL a i).length = n := by rw [List.length_append, List.length_replicate, beL_length]; omega
    have hset : (List.replicate (n - i) 0 ++ beL a i).set (n - 1 - i) ((a / 2 ^ (8 * i)) % 256) = List.replicate (n - (i + 1)) 0 ++ beL a (i + 1) := by
      have e : n - i = (n - (i + 1)) + 1 := by omega
      have e2 : n - 1 - i = n - (i + 1) := by omega
      rw [e, List.replicate_succ', List.append_assoc, e2, List.set_append_right _ _ (by simp), List.length_replicate, Nat.sub_self]
      rfl
    refine Ev.step (fun k => ?_) (ih (i + 1) (by omega))
    simp only [impl_be.l0, w8 i (by omega), w1, w2, shr_at a i (by omega), hlen, Int.toNat_natCast, hset]
    rw [if_pos (by omega), if_pos (by omega), if_pos (by omega), if_pos (by omega)]
theorem impl_be_ev (a : Int) (n : Nat) (hn : n ≤ 8) : Ev (fun k => impl_be.f k a (n : Int)) (beL a n) := by
  refine Ev.congr (fun k => ?_) (impl_be_l0 a n hn n 0 (by omega))
  unfold impl_be.f
  rw [if_pos (by omega), if_pos (by omega), Option.bind_some, Int.toNat_natCast, List.length_replicate, beL, List.append_nil]; rfl

-- SAYS: NumberBytes: the bytes of a number, high byte first, are the same row to both; what does not fit is refused alike; the program's row is its caller's own.
-- USES: Bytes Eq Mark Be
theorem numberBytes (a n : Int) (ha : -9223372036854775808 ≤ a ∧ a < 9223372036854775808) (hn : -9223372036854775808 ≤ n ∧ n < 9223372036854775808) : ∃ r : List Int × Int, r.1.length ≤ 6 ∧ Ev (fun k => spec_NumberBytes.f k a n) r ∧ Ev (fun k => impl_NumberBytes.f k a n) r := by
  by_cases h1 : 1 ≤ n ∧ n ≤ 6
  · obtain ⟨m, rfl⟩ : ∃ m : Nat, n = m := ⟨n.toNat, by omega⟩
    have e8 : wrap64 (8 * (m : Int)) = ((8 * m : Nat) : Int) := w8 m (by omega)
    have u8 : IntKind.u64.wrap ((8 * m : Nat) : Int) = ((8 * m : Nat) : Int) := by rw [wrap_u64]; omega
    have sh : shr .i64 a ((8 * m : Nat) : Int) = a / 2 ^ (8 * m) := shr_at a m (by omega)
    have sl : wrap64 (shl .i64 1 ((8 * m : Nat) : Int) - 1) = 2 ^ (8 * m) - 1 := by
      rcases (show m = 1 ∨ m = 2 ∨ m = 3 ∨ m = 4 ∨ m = 5 ∨ m = 6 by omega) with rfl | rfl | rfl | rfl | rfl | rfl <;> decide +kernel
    have pw : (0 : Int) < 2 ^ (8 * m) := Int.pow_pos (by decide)
    have hS : ∀ r, Ev (fun k => if 0 ≤ a ∧ a ≤ 2 ^ (8 * m) - 1 then (spec_l01Number.f k a (m : Int)).bind fun t => (if t.size ≤ 140737488355328 then some (bytesOf t, (0 : Int)) else none) else some ([], 4)) r → Ev (fun k => spec_NumberBytes.f k a (m : Int)) r := fun r h => Ev.congr (fun k => by
      unfold spec_NumberBytes.f spec_l01In.f
      rw [if_pos h1.1, decide_eq_true h1.2, Option.bind_some, if_pos rfl, e8, u8, if_pos (by omega), sl]
      by_cases g : 0 ≤ a
      · rw [if_pos g, Option.bind_some]
        by_cases g2 : a ≤ 2 ^ (8 * m) - 1
        · rw [decide_eq_true g2, if_pos rfl, if_pos ⟨g, g2⟩]
        · rw [decide_eq_false g2, if_neg (show ¬ (false = true) by decide), if_neg (fun h => g2 h.2)]
      · rw [if_neg g, Option.bind_some, if_neg (show ¬ (false = true) by decide), if_neg (fun h => g h.1)]) h
    have hI : ∀ r, Ev (fun k => if 0 ≤ a ∧ a ≤ 2 ^ (8 * m) - 1 then (impl_be.f k a (m : Int)).bind fun t => some (t, (0 : Int)) else some ([], 4)) r → Ev (fun k => impl_NumberBytes.f k a (m : Int)) r := fun r h => Ev.congr (fun k => by
      unfold impl_NumberBytes.f impl_within.f
      rw [if_pos h1.1, decide_eq_true h1.2, Option.bind_some, if_pos rfl, e8, sh, if_pos (show (0 : Int) ≤ ((8 * m : Nat) : Int) by omega)]
      by_cases g : 0 ≤ a
      · rw [if_neg (by omega)]
        by_cases g2 : a ≤ 2 ^ (8 * m) - 1
        · have : a / 2 ^ (8 * m) = 0 := Int.ediv_eq_zero_of_lt g (by omega)
          rw [this, if_neg (by decide), if_pos ⟨g, g2⟩]
        · have : 0 < a / 2 ^ (8 * m) := by
            have := Int.le_ediv_of_mul_le (c := 2 ^ (8 * m)) (a := 1) (b := a) pw (by omega)
            omega
          rw [if_pos this, if_neg (fun h => g2 h.2)]
      · rw [if_pos (by omega), if_neg (fun h => g h.1)]) h
    by_cases g : 0 ≤ a ∧ a ≤ 2 ^ (8 * m) - 1
    · refine ⟨(beL a m, 0), by rw [beL_length]; omega, hS _ ?_, hI _ ?_⟩
      · simp only [if_pos g]
        refine Ev.bind (spec_number_ev a m (by omega)) (Ev.congr (fun k => ?_) (Ev.now _))
        rw [if_pos (by rw [str_size, beL_length]; omega), bytesOf_str (beL_bytes a m)]
      · simp only [if_pos g]
        exact Ev.bind (impl_be_ev a m (by omega)) (Ev.now _)
    · refine ⟨([], 4), by simp, hS _ ?_, hI _ ?_⟩
      · simp only [if_neg g]; exact Ev.now _
      · simp only [if_neg g]; exact Ev.now _
  · refine ⟨([], 4), by simp, Ev.congr (fun k => ?_) (Ev.now _), Ev.congr (fun k => ?_) (Ev.now _)⟩
    · unfold spec_NumberBytes.f spec_l01In.f
      by_cases g : 1 ≤ n
      · rw [if_pos g, decide_eq_false (fun h => h1 ⟨g, h⟩)]; rfl
      · rw [if_neg g]; rfl
    · unfold impl_NumberBytes.f impl_within.f
      by_cases g : n ≥ 1
      · rw [if_pos g, decide_eq_false (fun h => h1 ⟨g, h⟩)]; rfl
      · rw [if_neg g]; rfl
theorem FnExactNumberBytes : laws_FnExactNumberBytes.Pure := by
  intro a n ha hn
  apply Ev.rounds
  obtain ⟨⟨r1, r2⟩, hl, hS, hI⟩ := numberBytes a n (wf_i64 ha) (wf_i64 hn)
  replace hl : r1.length ≤ 6 := hl
  have hE := eqByteS_ev r1 (by omega)
  refine Ev.congr (fun k => by unfold laws_FnExactNumberBytes.f; rfl) ?_
  refine Ev.bind hS (Ev.bind hI (Ev.bind hE ?_))
  simp only [if_true, bne_self_eq_false]
  refine Ev.step (fun k => by simp only [laws_FnExactNumberBytes.j0]; rw [if_neg (by decide)]) ?_
  refine Ev.bind (mark_ev r1 (by omega)) (Ev.bind (held_ev r1.length (by omega)) ?_)
  refine Ev.congr (fun k => by rw [if_neg (by omega), if_pos rfl]) ?_
  refine Ev.bind hI (Ev.bind hE ?_)
  simp only [if_true, bne_self_eq_false]
  refine Ev.step (fun k => by simp only [laws_FnExactNumberBytes.j1]; rw [if_neg (by decide)]) ?_
  refine Ev.bind (held_ev r1.length (by omega)) ?_
  refine Ev.congr (fun k => by rw [if_neg (by omega), if_pos rfl]) (Ev.now _)

end Go.Proofs.Ythfhflgiblmooaa.Pure
