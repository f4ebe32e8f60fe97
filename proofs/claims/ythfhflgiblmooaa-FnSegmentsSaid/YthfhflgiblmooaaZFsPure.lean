/- FnSegments: a drawn segment and a drawn datagram are read back from their bytes; with a bit turned, or between other ends, they are none. -/
import Derived.Test.YthfhflgiblmooaaZFsPx16
import Derived.Test.YthfhflgiblmooaaZFsBase
set_option linter.unusedSimpArgs false
set_option linter.unusedVariables false
namespace Go.Proofs.Ythfhflgiblmooaa.Pure
open Go.RowKit Go.Proofs.Ythfhflgiblmooaa.PFs Go.Proofs.YthfhflgiblmooaaW.PrintWords Go.Proofs.YthfhflgiblmooaaW.PrintLast Go.Proofs.YthfhflgiblmooaaW.PrintMore Base

/-! ### rows of bytes and the strings of them -/
def Bytes (l : List Int) : Prop := ∀ x ∈ l, 0 ≤ x ∧ x < 256
theorem bytes_wf {l : List Int} (h : ∀ x ∈ l, (Lit.int .u8 x).wf = true) : Bytes l := fun x hx => wf_u8 (h x hx)
theorem rd_nat (l : List Int) (i : Nat) : rd l (i : Int) = l.getD i 0 := by simp [rd]
theorem rd_at (l : List Int) (i : Nat) (h : i < l.length) : rd l (i : Int) = l[i] := by
  rw [rd_nat, List.getD_eq_getElem?_getD, List.getElem?_eq_getElem h]; rfl
theorem rd_byte {l : List Int} (h : Bytes l) (i : Nat) : 0 ≤ rd l (i : Int) ∧ rd l (i : Int) < 256 := by
  by_cases hi : i < l.length
  · rw [rd_at l i hi]; exact h _ (List.getElem_mem hi)
  · rw [rd_nat, List.getD_eq_getElem?_getD, List.getElem?_eq_none (by omega)]; simp
theorem str_bt {l : List Int} (h : Bytes l) (i : Nat) : bt (strOfNums l) (i : Int) = rd l (i : Int) := by
  rw [bt_nat, strOfNums_data, rd_nat, List.getD_eq_getElem?_getD, List.getD_eq_getElem?_getD, List.getElem?_map]
  by_cases hi : i < l.length
  · rw [List.getElem?_eq_getElem hi]
    simp only [Option.map_some, Option.getD_some]
    have := h _ (List.getElem_mem hi)
    rw [UInt8.toNat_ofNat']; omega
  · rw [List.getElem?_eq_none (by omega)]; rfl
theorem str_size (l : List Int) : (strOfNums l).size = l.length := strOfNums_size l

/-! ### the number of a row of bytes, high byte first -/
def num (l : List Int) : Int := l.foldl (fun n c => n * 256 + c) 0
theorem num_snoc (l : List Int) (c : Int) : num (l ++ [c]) = num l * 256 + c := by simp [num]
theorem num_take (l : List Int) (i : Nat) (h : i < l.length) : num (l.take (i + 1)) = num (l.take i) * 256 + l[i] := by
  rw [List.take_succ_eq_append_getElem h, num_snoc]
theorem num_0 {l : List Int} (h : Bytes l) : ∀ i, i ≤ l.length → 0 ≤ num (l.take i) ∧ num (l.take i) < 256 ^ i := by
  intro i
  induction i with
  | zero => intro _; rw [List.take_zero]; exact ⟨by decide, by decide⟩
  | succ i ih =>
    intro hi
    have h1 := ih (by omega)
    have h2 := h _ (List.getElem_mem (show i < l.length by omega))
    rw [num_take l i (by omega), Int.pow_succ]
    omega
theorem num_6 {l : List Int} (h : Bytes l) (i : Nat) (hi : i ≤ l.length) (h7 : i ≤ 6) : 0 ≤ num (l.take i) ∧ num (l.take i) < 281474976710656 := by
  have h1 := num_0 h i hi
  rcases (show i = 0 ∨ i = 1 ∨ i = 2 ∨ i = 3 ∨ i = 4 ∨ i = 5 ∨ i = 6 by omega) with e | e | e | e | e | e | e <;> rw [e] at h1 ⊢ <;> omega
/-! ### the sum of words of 16 bits: one number to both -/
theorem sum_l1 (n : Nat) : ∀ c : Int, c.toNat ≤ n → 0 ≤ c → c < 4611686018427387904 → ∃ r, 0 ≤ r ∧ r ≤ 65535 ∧ Ev (fun k => spec_l01Sum16.l1 k c) r ∧ Ev (fun k => impl_sum16.l1 k c) r := by
  induction n with
  | zero =>
    intro c h1 h2 h3
    have : c = 0 := by omega
    subst this
    refine ⟨65535, by omega, by omega, Ev.step (fun k => ?_) (Ev.now _), Ev.step (fun k => ?_) (Ev.now _)⟩
    · simp only [spec_l01Sum16.l1]; rw [if_neg (by omega), wrap64_id (by omega) (by omega)]; rfl
    · simp only [impl_sum16.l1]; rw [if_neg (by omega), wrap64_id (by omega) (by omega)]; rfl
  | succ n ih =>
    intro c h1 h2 h3
    by_cases h : c > 65535
    · have e : wrap64 (Int.tmod c 65536 + wrap64 (Int.tdiv c 65536)) = c % 65536 + c / 65536 := by
        rw [Int.tmod_eq_emod_of_nonneg h2, Int.tdiv_eq_ediv_of_nonneg h2, wrap64_id (x := c / 65536) (by omega) (by omega), wrap64_id (by omega) (by omega)]
      obtain ⟨r, r0, r1, hS, hI⟩ := ih (c % 65536 + c / 65536) (by omega) (by omega) (by omega)
      refine ⟨r, r0, r1, Ev.step (fun k => ?_) hS, Ev.step (fun k => ?_) hI⟩
      · simp only [spec_l01Sum16.l1]; rw [if_pos h, e]
      · simp only [impl_sum16.l1]; rw [if_pos (by omega), e]
    · refine ⟨65535 - c, by omega, by omega, Ev.step (fun k => ?_) (Ev.now _), Ev.step (fun k => ?_) (Ev.now _)⟩
      · simp only [spec_l01Sum16.l1]; rw [if_neg h, wrap64_id (by omega) (by omega)]
      · simp only [impl_sum16.l1]; rw [if_neg (by omega), wrap64_id (by omega) (by omega)]
theorem sum_l0 (l : List Int) (hB : Bytes l) (hl : l.length ≤ 1048576) (d : Nat) : ∀ (i : Nat) (c : Int), i + d = l.length → 0 ≤ c → c ≤ 65280 * i → ∃ r, 0 ≤ r ∧ r ≤ 65535 ∧ Ev (fun k => spec_l01Sum16.l0 k (strOfNums l) c (i : Int)) r ∧ Ev (fun k => impl_sum16.l0 k c l (l.length : Int) (i : Int)) r := by
  induction d with
  | zero =>
    intro i c hi h0 h1
    obtain ⟨r, r0, r1, hS, hI⟩ := sum_l1 c.toNat c (Nat.le_refl _) h0 (by omega)
    refine ⟨r, r0, r1, Ev.step (fun k => ?_) hS, Ev.step (fun k => ?_) hI⟩
    · simp only [spec_l01Sum16.l0]; rw [if_neg (by rw [str_size]; omega)]
    · simp only [impl_sum16.l0]; rw [if_neg (by omega)]
  | succ d ih =>
    intro i c hi h0 h1
    have hw : wrap64 ((i : Int) + 1) = ((i + 1 : Nat) : Int) := by rw [wrap64_id (by omega) (by omega)]; omega
    have hb := rd_byte hB i
    have hm : Int.tmod (i : Int) 2 = ((i % 2 : Nat) : Int) := by rw [Int.tmod_eq_emod_of_nonneg (by omega)]; omega
    have w1 : wrap64 (rd l (i : Int)) = rd l i := wrap64_id (by omega) (by omega)
    by_cases he : i % 2 = 0
    · obtain ⟨r, r0, r1, hS, hI⟩ := ih (i + 1) (c + 256 * rd l i) (by omega) (by omega) (by omega)
      refine ⟨r, r0, r1, Ev.step (fun k => ?_) hS, Ev.step (fun k => ?_) hI⟩
      · simp only [spec_l01Sum16.l0, hw, hm, str_bt hB, w1]
        rw [if_pos (by rw [str_size]; omega), if_pos (by omega), if_pos (by omega), wrap64_id (x := 256 * rd l i) (by omega) (by omega), wrap64_id (by omega) (by omega)]
      · simp only [impl_sum16.l0, hw, hm, w1]
        rw [if_pos (by omega), if_pos (by omega), if_pos (by omega), if_pos (by omega), wrap64_id (x := rd l i * 256) (by omega) (by omega), wrap64_id (by omega) (by omega), Int.mul_comm]
    · obtain ⟨r, r0, r1, hS, hI⟩ := ih (i + 1) (c + rd l i) (by omega) (by omega) (by omega)
      refine ⟨r, r0, r1, Ev.step (fun k => ?_) hS, Ev.step (fun k => ?_) hI⟩
      · simp only [spec_l01Sum16.l0, hw, hm, str_bt hB, w1]
        rw [if_pos (by rw [str_size]; omega), if_neg (by omega), if_pos (by omega), wrap64_id (by omega) (by omega)]
      · simp only [impl_sum16.l0, hw, hm, w1]
        rw [if_pos (by omega), if_pos (by omega), if_pos (by omega), if_neg (by omega), wrap64_id (by omega) (by omega)]
theorem sum_ev (l : List Int) (hB : Bytes l) (hl : l.length ≤ 1048576) : ∃ r, 0 ≤ r ∧ r ≤ 65535 ∧ Ev (fun k => spec_l01Sum16.f k (strOfNums l)) r ∧ Ev (fun k => impl_sum16.f k l) r :=
  sum_l0 l hB hl l.length 0 0 (by omega) (by omega) (by omega)

/-! ### the bytes of a number, high byte first -/
def beL (a : Int) : Nat → List Int
  | 0 => []
  | m + 1 => (a / 2 ^ (8 * m)) % 256 :: beL a m
theorem beL_length (a : Int) (m : Nat) : (beL a m).length = m := by
  induction m with
  | zero => rfl
  | succ m ih => simp [beL, ih]
theorem beL_bytes (a : Int) (m : Nat) : Bytes (beL a m) := by
  induction m with
  | zero => intro x hx; simp [beL] at hx
  | succ m ih =>
    intro x hx
    simp only [beL, List.mem_cons] at hx
    rcases hx with rfl | hx
    · exact ⟨Int.emod_nonneg _ (by decide), Int.emod_lt_of_pos _ (by decide)⟩
    · exact ih x hx
theorem bytesOf_str {l : List Int} (h : Bytes l) : bytesOf (strOfNums l) = l := by
  unfold bytesOf
  rw [strOfNums_data, List.map_map]
  conv => rhs; rw [← List.map_id l]
  apply List.map_congr_left
  intro x hx
  have := h x hx
  simp only [Function.comp, UInt8.toNat_ofNat', id]; omega
theorem str_app (x y : List Int) : strOfNums x ++ strOfNums y = strOfNums (x ++ y) := by
  apply toList_inj
  rw [toList_data, toList_data, ByteArray.data_append, Array.toList_append, strOfNums_data, strOfNums_data, strOfNums_data, List.map_append]
theorem shr_at (a : Int) (i : Nat) (h : i ≤ 7) : shr .i64 a ((8 * i : Nat) : Int) = a / 2 ^ (8 * i) := by
  show a / 2 ^ min (((8 * i : Nat) : Int)).toNat 64 = _
  rw [Int.toNat_natCast, Nat.min_eq_left (by omega)]
theorem w8 (i : Nat) (h : i ≤ 7) : wrap64 (8 * (i : Int)) = ((8 * i : Nat) : Int) := by rw [wrap64_id (by omega) (by omega)]; omega
theorem spec_number_l0 (a : Int) (m : Nat) : ∀ acc : List Int, m ≤ 8 → acc.length + m ≤ 1000 → Ev (fun k => spec_l01Number.l0 k a acc ((m : Int) - 1)) (strOfNums (acc ++ beL a m)) := by
  induction m with
  | zero =>
    intro acc _ _
    refine Ev.step (f := fun _ => some (strOfNums (acc ++ beL a 0))) (fun k => ?_) (Ev.now _)
    simp only [spec_l01Number.l0]; rw [if_neg (by omega), beL, List.append_nil]
  | succ m ih =>
    intro acc hm ha
    have e : ((m + 1 : Nat) : Int) - 1 = (m : Int) := by omega
    have u : IntKind.u64.wrap ((8 * m : Nat) : Int) = ((8 * m : Nat) : Int) := by rw [wrap_u64]; omega
    have w : wrap64 ((m : Int) - 1) = (m : Int) - 1 := wrap64_id (by omega) (by omega)
    have h := ih (acc ++ [(a / 2 ^ (8 * m)) % 256]) (by omega) (by simp; omega)
    rw [List.append_assoc] at h
    refine Ev.step (fun k => ?_) h
    simp only [spec_l01Number.l0, e, w8 m (by omega), u, w, shr_at a m (by omega)]
    rw [if_pos (by omega), if_pos (by omega), if_pos (by omega)]
theorem spec_number_ev (a : Int) (n : Nat) (hn : n ≤ 8) : Ev (fun k => spec_l01Number.f k a (n : Int)) (strOfNums (beL a n)) := by
  refine Ev.congr (fun k => ?_) (spec_number_l0 a n [] hn (by simp; omega))
  unfold spec_l01Number.f
  rw [wrap64_id (by omega) (by omega)]
theorem impl_be_l0 (a : Int) (n : Nat) (hn : n ≤ 8) (d : Nat) : ∀ i : Nat, i + d = n → Ev (fun k => impl_be.l0 k a (n : Int) (List.replicate (n - i) 0 ++ beL a i) (n : Int) (i : Int)) (beL a n) := by
  induction d with
  | zero =>
    intro i hi
    have : i = n := by omega
    subst this
    refine Ev.step (f := fun _ => some (beL a i)) (fun k => ?_) (Ev.now _)
    simp only [impl_be.l0]; rw [if_neg (by omega), Nat.sub_self]; rfl
  | succ d ih =>
    intro i hi
    have w1 : wrap64 ((i : Int) + 1) = ((i + 1 : Nat) : Int) := by rw [wrap64_id (by omega) (by omega)]; omega
    have w2 : wrap64 (wrap64 ((n : Int) - 1) - (i : Int)) = ((n - 1 - i : Nat) : Int) := by
      rw [wrap64_id (x := (n : Int) - 1) (by omega) (by omega), wrap64_id (by omega) (by omega)]; omega
    have hlen : (List.replicate (n - i) 0 ++ beL a i).length = n := by rw [List.length_append, List.length_replicate, beL_length]; omega
    have hset : (List.replicate (n - i) 0 ++ beL a i).set (n - 1 - i) ((a / 2 ^ (8 * i)) % 256) = List.replicate (n - (i + 1)) 0 ++ beL a (i + 1) := by
      have e : n - i = (n - (i + 1)) + 1 := by omega
      have e2 : n - 1 - i = n - (i + 1) := by omega
      rw [e, List.replicate_succ', List.append_assoc, e2, List.set_append_right _ _ (by simp), List.length_replicate, Nat.sub_self]
      rfl
    refine Ev.step (fun k => ?_) (ih (i + 1) (by omega))
    simp only [impl_be.l0, w8 i (by omega), w1, w2, shr_at a i (by omega), hlen, Int.toNat_natCast, hset]
    rw [if_pos (by omega), if_pos (by omega), if_pos (by omega), if_pos (by omega)]
theorem impl_be_ev (a : Int) (n : Nat) (hn : n ≤ 8) : Ev (fun k => impl_be.f k a (n : Int)) (beL a n) := by
  refine Ev.congr (fun k => ?_) (impl_be_l0 a n hn n 0 (by omega))
  unfold impl_be.f
  rw [if_pos (by omega), if_pos (by omega), Option.bind_some, Int.toNat_natCast, List.length_replicate, beL, List.append_nil]; rfl

/-! ### rows laid one behind the other -/
theorem bytesOf_len (x : ByteArray) : (bytesOf x).length = x.size := bytesOf_length x
theorem size_app (x y : ByteArray) : (x ++ y).size = x.size + y.size := ByteArray.size_append
theorem flat_take (ls : List (List Int)) (i : Nat) (h : i < ls.length) : (ls.take (i + 1)).flatten = (ls.take i).flatten ++ ls[i] := by
  rw [List.take_succ_eq_append_getElem h, List.flatten_append, List.flatten_cons, List.flatten_nil, List.append_nil]
theorem flat_le (ls : List (List Int)) (i : Nat) : (ls.take i).flatten.length ≤ ls.flatten.length := by
  conv => rhs; rw [← List.take_append_drop i ls]
  rw [List.flatten_append, List.length_append]; omega
theorem rdL_at (ls : List (List Int)) (i : Nat) (h : i < ls.length) : rd_L1 ls (i : Int) = ls[i] := by
  simp [rd_L1, List.getD_eq_getElem?_getD, h]
theorem concat_l1 (ls : List (List Int)) (hn : ls.length ≤ 1000) (ht : ls.flatten.length ≤ 100000000) (d : Nat) : ∀ i : Nat, i + d = ls.length → Ev (fun k => slices_Concat_byte_byte.l1 k (ls.take i).flatten ls (ls.length : Int) (i : Int)) ls.flatten := by
  induction d with
  | zero =>
    intro i hi
    refine Ev.step (f := fun _ => some ls.flatten) (fun k => ?_) (Ev.now _)
    simp only [slices_Concat_byte_byte.l1]; rw [if_neg (by omega), List.take_of_length_le (by omega)]
  | succ d ih =>
    intro i hi
    have w1 : wrap64 ((i : Int) + 1) = ((i + 1 : Nat) : Int) := by rw [wrap64_id (by omega) (by omega)]; omega
    have h := flat_take ls i (by omega)
    have h2 := flat_le ls (i + 1)
    rw [h, List.length_append] at h2
    refine Ev.step (fun k => ?_) (ih (i + 1) (by omega))
    simp only [slices_Concat_byte_byte.l1, w1, rdL_at ls i (by omega), h]
    rw [if_pos (by omega), if_pos (by omega), if_pos (by omega), if_pos (by omega)]
theorem concat_l0 (ls : List (List Int)) (hn : ls.length ≤ 1000) (ht : ls.flatten.length ≤ 100000000) (d : Nat) : ∀ i : Nat, i + d = ls.length → Ev (fun k => slices_Concat_byte_byte.l0 k ls (((ls.take i).flatten.length : Nat) : Int) ls (ls.length : Int) (i : Int)) ls.flatten := by
  induction d with
  | zero =>
    intro i hi
    have h2 := flat_le ls i
    refine Ev.step (f := fun k => slices_Concat_byte_byte.l1 k [] ls (ls.length : Int) 0) (fun k => ?_) (Ev.congr (fun k => rfl) (concat_l1 ls hn ht ls.length 0 (by omega)))
    simp only [slices_Concat_byte_byte.l0, slices_Grow_byte_byte.f]
    rw [if_neg (by omega), if_pos (show ([] : List Int).length = 0 from rfl), if_pos (by omega), if_pos (by omega), Option.bind_some]
  | succ d ih =>
    intro i hi
    have w1 : wrap64 ((i : Int) + 1) = ((i + 1 : Nat) : Int) := by rw [wrap64_id (by omega) (by omega)]; omega
    have h := flat_take ls i (by omega)
    have h2 := flat_le ls (i + 1)
    rw [h, List.length_append] at h2
    have w2 : wrap64 (((ls.take i).flatten.length : Nat) + (ls[i].length : Int)) = (((ls.take (i + 1)).flatten.length : Nat) : Int) := by rw [h, List.length_append, wrap64_id (by omega) (by omega)]; omega
    refine Ev.step (fun k => ?_) (ih (i + 1) (by omega))
    simp only [slices_Concat_byte_byte.l0, w1, rdL_at ls i (by omega), w2]
    rw [if_pos (by omega), if_pos (by omega), if_pos (by omega), if_neg (by omega)]
theorem concat_ev (ls : List (List Int)) (hn : ls.length ≤ 1000) (ht : ls.flatten.length ≤ 100000000) : Ev (fun k => slices_Concat_byte_byte.f k ls) ls.flatten :=
  Ev.congr (fun k => rfl) (concat_l0 ls hn ht ls.length 0 (by omega))

/-! ### the sum with what stands ahead of a segment or datagram -/
def ahead (src dst proto len : Int) : List Int := beL src 4 ++ (beL dst 4 ++ (beL proto 2 ++ beL len 2))
theorem ahead_bytes (src dst proto len : Int) : Bytes (ahead src dst proto len) := by
  intro x hx
  unfold ahead at hx
  simp only [List.mem_append] at hx
  rcases hx with h | h | h | h <;> exact beL_bytes _ _ x h
theorem ahead_length (src dst proto len : Int) : (ahead src dst proto len).length = 12 := by simp [ahead, beL_length]
theorem bytes_append {x y : List Int} (hx : Bytes x) (hy : Bytes y) : Bytes (x ++ y) := fun z hz => by
  rcases List.mem_append.1 hz with h | h
  · exact hx z h
  · exact hy z h
theorem pseudo_ev (src dst proto : Int) (n : Int) (hp : 0 ≤ proto ∧ proto < 256) : Ev (fun k => spec_l02Pseudo.f k src dst proto n) (strOfNums (ahead src dst proto n)) := by
  have e0 : (⟨#[0]⟩ : ByteArray) = strOfNums [0] := by decide +kernel
  have e2 : beL proto 2 = 0 :: beL proto 1 := by
    have : proto / 2 ^ (8 * 1) % 256 = 0 := by
      have : proto / 2 ^ (8 * 1) = 0 := Int.ediv_eq_zero_of_lt (by omega) (by omega)
      rw [this]; rfl
    show proto / 2 ^ (8 * 1) % 256 :: beL proto 1 = _
    rw [this]
  have z : ∀ a m, (strOfNums (beL a m)).size = m := fun a m => by rw [str_size, beL_length]
  have z0 : (⟨#[0]⟩ : ByteArray).size = 1 := rfl
  refine Ev.congr (fun k => by unfold spec_l02Pseudo.f; rfl) ?_
  refine Ev.bind (spec_number_ev src 4 (by omega)) (Ev.bind (spec_number_ev dst 4 (by omega)) ?_)
  refine Ev.congr (fun k => by rw [if_pos (by simp only [z]; omega), if_pos (by simp only [size_app, z]; omega)]) ?_
  refine Ev.bind (spec_number_ev proto 1 (by omega)) ?_
  refine Ev.congr (fun k => by rw [if_pos (by simp only [size_app, z, z0]; omega)]) ?_
  refine Ev.bind (spec_number_ev n 2 (by omega)) ?_
  refine Ev.congr (fun k => ?_) (Ev.now _)
  rw [if_pos (by simp only [size_app, z, z0]; omega), e0, str_app, str_app, str_app, str_app]
  unfold ahead
  rw [e2]
  simp only [List.append_assoc, List.cons_append, List.nil_append]
theorem ends_ev (src dst proto : Int) (l : List Int) (hB : Bytes l) (hl : l.length ≤ 65536) : ∃ r, 0 ≤ r ∧ r ≤ 65535 ∧ Ev (fun k => spec_l01Sum16.f k (strOfNums (ahead src dst proto l.length) ++ strOfNums l)) r ∧ Ev (fun k => impl_withEnds.f k src dst proto l) r := by
  obtain ⟨r, r0, r1, hS, hI⟩ := sum_ev (ahead src dst proto l.length ++ l) (bytes_append (ahead_bytes _ _ _ _) hB) (by rw [List.length_append, ahead_length]; omega)
  refine ⟨r, r0, r1, by rw [str_app]; exact hS, ?_⟩
  have hF : [beL src 4, beL dst 4, beL proto 2, beL (l.length : Int) 2, l].flatten = ahead src dst proto l.length ++ l := by
    simp [ahead]
  refine Ev.congr (fun k => by unfold impl_withEnds.f; rfl) ?_
  refine Ev.bind (impl_be_ev src 4 (by omega)) (Ev.bind (impl_be_ev dst 4 (by omega)) (Ev.bind (impl_be_ev proto 2 (by omega)) (Ev.bind (impl_be_ev (l.length : Int) 2 (by omega)) ?_)))
  refine Ev.bind (concat_ev _ (by simp) (by rw [hF, List.length_append, ahead_length]; omega)) ?_
  rw [hF]
  exact Ev.bind hI (Ev.now _)

/-! ### a string's bytes make the string -/
theorem str_bytesOf (a : ByteArray) : strOfNums (bytesOf a) = a := by
  apply toList_inj
  rw [toList_data, toList_data, strOfNums_data]
  unfold bytesOf
  rw [List.map_map]
  conv => rhs; rw [← List.map_id a.data.toList]
  apply List.map_congr_left
  intro x _
  simp [Function.comp]
theorem bytesOf_bytes (a : ByteArray) : Bytes (bytesOf a) := by
  intro x hx
  unfold bytesOf at hx
  obtain ⟨y, _, rfl⟩ := List.mem_map.1 hx
  have := y.toNat_lt
  exact ⟨by omega, by omega⟩
theorem beL_two (a : Int) : ∃ x y, beL a 2 = [x, y] := ⟨_, _, rfl⟩
theorem beL_four (a : Int) : ∃ x y z u, beL a 4 = [x, y, z, u] := ⟨_, _, _, _, rfl⟩
/-! ### tests of what is right, one behind the other -/
theorem some_ite (c q : Bool) : (if c = true then some q else some false) = some (c && q) := by cases c <;> rfl
theorem in_spec (a l h : Int) : spec_l01In.f a l h = some (decide (l ≤ a ∧ a ≤ h)) := by
  unfold spec_l01In.f
  by_cases h1 : l ≤ a <;> simp [h1]
theorem in_impl (a l h : Int) : impl_within.f a l h = some (decide (l ≤ a ∧ a ≤ h)) := by
  unfold impl_within.f
  by_cases h1 : l ≤ a <;> simp [h1]
/-! ### what the sum of words is -/
def ws (l : List Int) : Nat → Int
  | 0 => 0
  | i + 1 => ws l i + (if i % 2 = 0 then 256 * rd l (i : Int) else rd l (i : Int))
theorem ws_0 {l : List Int} (h : Bytes l) (i : Nat) : 0 ≤ ws l i ∧ ws l i ≤ 65280 * i := by
  induction i with
  | zero => exact ⟨Int.le_refl _, Int.le_refl _⟩
  | succ i ih =>
    have hb := rd_byte h i
    simp only [ws]
    split <;> omega
theorem rd_left (t u : List Int) (i : Nat) (h : i < t.length) : rd (t ++ u) (i : Int) = rd t (i : Int) := by
  rw [rd_nat, rd_nat, List.getD_eq_getElem?_getD, List.getD_eq_getElem?_getD, List.getElem?_append_left h]
theorem rd_right (t u : List Int) (i : Nat) : rd (t ++ u) ((t.length + i : Nat) : Int) = rd u (i : Int) := by
  rw [rd_nat, rd_nat, List.getD_eq_getElem?_getD, List.getD_eq_getElem?_getD, List.getElem?_append_right (by omega)]
  rw [show t.length + i - t.length = i by omega]
theorem ws_left (t u : List Int) (i : Nat) (h : i ≤ t.length) : ws (t ++ u) i = ws t i := by
  induction i with
  | zero => rfl
  | succ i ih => simp only [ws]; rw [ih (by omega), rd_left t u i (by omega)]
theorem ws_right (t u : List Int) (he : t.length % 2 = 0) (i : Nat) : ws (t ++ u) (t.length + i) = ws t t.length + ws u i := by
  induction i with
  | zero => rw [Nat.add_zero, ws_left t u _ (Nat.le_refl _)]; simp only [ws]; omega
  | succ i ih =>
    rw [show t.length + (i + 1) = (t.length + i) + 1 by omega]
    simp only [ws]
    rw [ih, rd_right]
    have : (t.length + i) % 2 = i % 2 := by omega
    rw [this]; split <;> omega
theorem ws_append (t u : List Int) (he : t.length % 2 = 0) : ws (t ++ u) (t ++ u).length = ws t t.length + ws u u.length := by
  rw [List.length_append]; exact ws_right t u he _
theorem ws_be (n : Int) (h0 : 0 ≤ n) (h1 : n < 65536) : ws (beL n 2) (beL n 2).length = n := by
  have e : beL n 2 = [n / 2 ^ (8 * 1) % 256, n / 2 ^ (8 * 0) % 256] := rfl
  rw [e]
  simp only [List.length_cons, List.length_nil, ws, rd, Nat.reduceAdd, Nat.zero_mod, Nat.reduceMod, if_true]
  simp
  omega
theorem rd_set (l : List Int) (k i : Nat) (v : Int) (hk : k < l.length) : rd (l.set k v) (i : Int) = if i = k then v else rd l (i : Int) := by
  rw [rd_nat, rd_nat, List.getD_eq_getElem?_getD, List.getD_eq_getElem?_getD]
  by_cases h : i = k
  · subst h; rw [if_pos rfl, List.getElem?_set_self hk]; rfl
  · rw [if_neg h, List.getElem?_set_ne (Ne.symm h)]
theorem ws_set (l : List Int) (k : Nat) (v : Int) (hk : k < l.length) (i : Nat) : ws (l.set k v) i = ws l i + (if k < i then (if k % 2 = 0 then 256 * (v - rd l k) else v - rd l k) else 0) := by
  induction i with
  | zero => simp [ws]
  | succ i ih =>
    simp only [ws]
    rw [ih, rd_set l k i v hk]
    by_cases h : i = k
    · subst h
      rw [if_pos rfl, if_neg (show ¬ i < i by omega), if_pos (show i < i + 1 by omega)]
      by_cases hp : i % 2 = 0
      · simp only [if_pos hp]; omega
      · simp only [if_neg hp]; omega
    · rw [if_neg h]
      by_cases h2 : k < i
      · rw [if_pos h2, if_pos (show k < i + 1 by omega)]
        generalize (if i % 2 = 0 then 256 * rd l (i : Int) else rd l (i : Int)) = x
        generalize (if k % 2 = 0 then 256 * (v - rd l k) else v - rd l k) = y
        omega
      · rw [if_neg h2, if_neg (show ¬ k < i + 1 by omega)]
        generalize (if i % 2 = 0 then 256 * rd l (i : Int) else rd l (i : Int)) = x
        omega
/-- The sum, folded. -/
def fold (c : Int) : Int := if c = 0 then 0 else (c - 1) % 65535 + 1
theorem impl_fold (n : Nat) : ∀ c : Int, c.toNat ≤ n → 0 ≤ c → c < 4611686018427387904 → Ev (fun k => impl_sum16.l1 k c) (65535 - fold c) := by
  induction n with
  | zero =>
    intro c h1 h2 h3
    have : c = 0 := by omega
    subst this
    refine Ev.step (f := fun _ => some (65535 - fold 0)) (fun k => ?_) (Ev.now _)
    simp only [impl_sum16.l1]; rw [if_neg (by omega), wrap64_id (by omega) (by omega)]; rfl
  | succ n ih =>
    intro c h1 h2 h3
    by_cases h : c > 65535
    · have e : wrap64 (Int.tmod c 65536 + wrap64 (Int.tdiv c 65536)) = c % 65536 + c / 65536 := by
        rw [Int.tmod_eq_emod_of_nonneg h2, Int.tdiv_eq_ediv_of_nonneg h2, wrap64_id (x := c / 65536) (by omega) (by omega), wrap64_id (by omega) (by omega)]
      have ef : fold (c % 65536 + c / 65536) = fold c := by
        unfold fold
        rw [if_neg (by omega), if_neg (by omega)]; omega
      have hI := ih (c % 65536 + c / 65536) (by omega) (by omega) (by omega)
      rw [ef] at hI
      refine Ev.step (fun k => ?_) hI
      simp only [impl_sum16.l1]; rw [if_pos (by omega), e]
    · have ef : fold c = c := by unfold fold; split <;> omega
      rw [ef]
      refine Ev.step (f := fun _ => some (65535 - c)) (fun k => ?_) (Ev.now _)
      simp only [impl_sum16.l1]; rw [if_neg (by omega), wrap64_id (by omega) (by omega)]
theorem impl_ws_l0 (l : List Int) (hB : Bytes l) (hl : l.length ≤ 1048576) (d : Nat) : ∀ i : Nat, i + d = l.length → Ev (fun k => impl_sum16.l0 k (ws l i) l (l.length : Int) (i : Int)) (65535 - fold (ws l l.length)) := by
  induction d with
  | zero =>
    intro i hi
    have h0 := ws_0 hB i
    have := impl_fold (ws l i).toNat (ws l i) (Nat.le_refl _) h0.1 (by omega)
    have hi' : i = l.length := by omega
    subst hi'
    refine Ev.step (fun k => ?_) this
    simp only [impl_sum16.l0]; rw [if_neg (by omega)]
  | succ d ih =>
    intro i hi
    have h0 := ws_0 hB i
    have hb := rd_byte hB i
    have hw : wrap64 ((i : Int) + 1) = ((i + 1 : Nat) : Int) := by rw [wrap64_id (by omega) (by omega)]; omega
    have hm : Int.tmod (i : Int) 2 = ((i % 2 : Nat) : Int) := by rw [Int.tmod_eq_emod_of_nonneg (by omega)]; omega
    have w1 : wrap64 (rd l (i : Int)) = rd l i := wrap64_id (by omega) (by omega)
    have hI := ih (i + 1) (by omega)
    simp only [ws] at hI
    refine Ev.step (fun k => ?_) hI
    simp only [impl_sum16.l0, hw, hm, w1]
    rw [if_pos (by omega), if_pos (by omega), if_pos (by omega)]
    by_cases he : i % 2 = 0
    · rw [if_pos (by omega), if_pos he, wrap64_id (x := rd l i * 256) (by omega) (by omega), wrap64_id (by omega) (by omega), Int.mul_comm]
    · rw [if_neg (by omega), if_neg he, wrap64_id (by omega) (by omega)]
theorem impl_ws_ev (l : List Int) (hB : Bytes l) (hl : l.length ≤ 1048576) : Ev (fun k => impl_sum16.f k l) (65535 - fold (ws l l.length)) :=
  Ev.congr (fun k => by unfold impl_sum16.f; rfl) (impl_ws_l0 l hB hl l.length 0 (by omega))
theorem ev_one {α : Type} {g : Nat → Option α} {a b : α} (h1 : Ev g a) (h2 : Ev g b) : a = b := by
  obtain ⟨K1, h1⟩ := h1
  obtain ⟨K2, h2⟩ := h2
  have e1 := h1 (max K1 K2) (by omega)
  have e2 := h2 (max K1 K2) (by omega)
  rw [e1] at e2; exact Option.some.inj e2
/-! ### a bit turned -/
theorem flip_all : ∀ b : Fin 256, ∀ s : Fin 8, Go.bits .xor .u8 ((b.val : Nat) : Int) (2 ^ s.val) = (b.val : Int) + 2 ^ s.val ∧ (b.val : Int) + 2 ^ s.val < 256 ∨ Go.bits .xor .u8 ((b.val : Nat) : Int) (2 ^ s.val) = (b.val : Int) - 2 ^ s.val ∧ 0 ≤ (b.val : Int) - 2 ^ s.val := by decide +kernel
theorem flip_byte (b s : Int) (hb : 0 ≤ b ∧ b < 256) (hs : 0 ≤ s ∧ s < 8) : ∃ v p : Int, Go.bits .xor .u8 b (shl .u8 1 (IntKind.u64.wrap s)) = v ∧ (v = b + p ∨ v = b - p) ∧ 1 ≤ p ∧ p ≤ 128 ∧ 0 ≤ v ∧ v < 256 ∧ 0 ≤ IntKind.u64.wrap s := by
  have hw : IntKind.u64.wrap s = s := by rw [wrap_u64]; omega
  have h := flip_all ⟨b.toNat, by omega⟩ ⟨s.toNat, by omega⟩
  simp only [] at h
  have eb : ((b.toNat : Nat) : Int) = b := by omega
  rw [eb] at h
  have hp : (1 : Int) ≤ 2 ^ s.toNat ∧ (2 : Int) ^ s.toNat ≤ 128 := by
    rcases (show s = 0 ∨ s = 1 ∨ s = 2 ∨ s = 3 ∨ s = 4 ∨ s = 5 ∨ s = 6 ∨ s = 7 by omega) with rfl | rfl | rfl | rfl | rfl | rfl | rfl | rfl <;> decide
  have hsh : shl .u8 1 s = 2 ^ s.toNat := by
    rcases (show s = 0 ∨ s = 1 ∨ s = 2 ∨ s = 3 ∨ s = 4 ∨ s = 5 ∨ s = 6 ∨ s = 7 by omega) with rfl | rfl | rfl | rfl | rfl | rfl | rfl | rfl <;> decide +kernel
  rw [hw, hsh]
  rcases h with ⟨h1, h2⟩ | ⟨h1, h2⟩
  · exact ⟨_, 2 ^ s.toNat, rfl, .inl h1, hp.1, hp.2, by omega, by omega, hs.1⟩
  · exact ⟨_, 2 ^ s.toNat, rfl, .inr h1, hp.1, hp.2, by omega, by omega, hs.1⟩
/-- A row whose sum is right, with a bit turned: its sum is not right. -/
theorem flip_sum (l : List Int) (k : Nat) (v p : Int) (hk : k < l.length) (hv : v = rd l k + p ∨ v = rd l k - p) (hp : 1 ≤ p ∧ p ≤ 128) (h : fold (ws l l.length) = 65535) (h0 : 0 ≤ ws l l.length) (h1 : 0 ≤ ws (l.set k v) l.length) : fold (ws (l.set k v) l.length) ≠ 65535 := by
  rw [ws_set l k v hk, if_pos hk] at *
  unfold fold at *
  split at h
  · omega
  · split
    · omega
    · split <;> (rcases hv with hv | hv <;> omega)
theorem set_bytes {l : List Int} (h : Bytes l) (k : Nat) (v : Int) (hv : 0 ≤ v ∧ v < 256) : Bytes (l.set k v) := fun x hx => by
  rcases List.mem_or_eq_of_mem_set hx with h1 | h1
  · exact h x h1
  · subst h1; exact hv
/-! ### draws out of a code -/
theorem src_byte {l : List Int} (h : Bytes l) (at_ sd : Int) (h0 : 0 ≤ at_ ∧ at_ ≤ 1000000000) (h1 : 0 ≤ sd ∧ sd < 2147483648) : ∃ r q : Int, spec_l00Src_byte.f l at_ sd = some (r, at_ + 1, q) ∧ (0 ≤ r ∧ r < 256) ∧ (0 ≤ q ∧ q < 2147483648) := by
  obtain ⟨i, rfl⟩ : ∃ i : Nat, at_ = i := ⟨at_.toNat, by omega⟩
  have hb := rd_byte h i
  unfold spec_l00Src_byte.f
  rw [if_pos ⟨h0, h1, by omega, by omega⟩]
  split
  · exact ⟨_, _, rfl, hb, by omega⟩
  · split
    · exact ⟨_, _, rfl, by omega, h1⟩
    · exact ⟨_, _, rfl, by omega, by omega⟩
theorem src_next {l : List Int} (h : Bytes l) (at_ sd n : Int) (h0 : 0 ≤ at_ ∧ at_ ≤ 1000000000) (h1 : 0 ≤ sd ∧ sd < 2147483648) (hn : 1 ≤ n ∧ n ≤ 256) : ∃ r a q : Int, spec_l00Src_next.f l at_ sd n = some (r, a, q) ∧ (0 ≤ r ∧ r < n) ∧ (at_ ≤ a ∧ a ≤ at_ + 1) ∧ (0 ≤ q ∧ q < 2147483648) := by
  unfold spec_l00Src_next.f
  by_cases h2 : n ≤ 1
  · rw [if_pos h2]; exact ⟨_, _, _, rfl, by omega, by omega, h1⟩
  · obtain ⟨r, q, hr, hr2, hq⟩ := src_byte h at_ sd h0 h1
    rw [if_neg h2, if_pos hn.2, hr, Option.bind_some, if_neg (by omega)]
    refine ⟨_, at_ + 1, q, rfl, ?_, by omega, hq⟩
    rw [Int.tmod_eq_emod_of_nonneg hr2.1]
    exact ⟨Int.emod_nonneg _ (by omega), Int.emod_lt_of_pos _ (by omega)⟩
/-! ### a choice out of bytes -/
theorem at_ev {l : List Int} (h : Bytes l) (hl : l.length ≤ 1048576) (i n : Nat) (hi : i ≤ 1000) (hn : 1 ≤ n ∧ n ≤ 1000000) : ∃ r : Nat, laws_at.f l (i : Int) (n : Int) = some (r : Int) ∧ r < n := by
  unfold laws_at.f
  by_cases h2 : (n : Int) ≤ 1
  · exact ⟨0, by rw [if_pos h2]; rfl, by omega⟩
  · rw [if_neg h2]
    by_cases h3 : (l.length : Int) = 0
    · rw [if_pos h3, if_neg (by omega), wrap64_id (by omega) (by omega), Int.tmod_eq_emod_of_nonneg (by omega)]
      exact ⟨(i * 7) % n, by rw [Int.natCast_emod, Int.natCast_mul]; rfl, Nat.mod_lt _ (by omega)⟩
    · have e1 : Int.tmod (i : Int) (l.length : Int) = ((i % l.length : Nat) : Int) := by rw [Int.tmod_eq_emod_of_nonneg (by omega), Int.natCast_emod]
      have e2 : Int.tmod (wrap64 ((i : Int) + 1)) (l.length : Int) = (((i + 1) % l.length : Nat) : Int) := by rw [wrap64_id (by omega) (by omega), Int.tmod_eq_emod_of_nonneg (by omega), Int.natCast_emod]; rfl
      obtain ⟨w, hw⟩ : ∃ w, w = i / l.length := ⟨_, rfl⟩
      have e3 : Int.tdiv (i : Int) (l.length : Int) = (w : Int) := by rw [hw, Int.tdiv_eq_ediv_of_nonneg (by omega), Int.natCast_ediv]
      obtain ⟨x1, hx1⟩ : ∃ x, x = i % l.length := ⟨_, rfl⟩
      obtain ⟨x2, hx2⟩ : ∃ x, x = (i + 1) % l.length := ⟨_, rfl⟩
      have l1 : i % l.length < l.length := Nat.mod_lt _ (by omega)
      have l2 : (i + 1) % l.length < l.length := Nat.mod_lt _ (by omega)
      have b1 := rd_byte h (i % l.length)
      have b2 := rd_byte h ((i + 1) % l.length)
      have d1 : w ≤ i := by rw [hw]; exact Nat.div_le_self _ _
      rw [← hx1] at e1 l1 b1
      rw [← hx2] at e2 l2 b2
      rw [if_neg h3, e1, e2, e3, if_pos (by omega), if_pos (by omega), if_pos (by omega), if_pos (by omega), if_neg (by omega)]
      rw [wrap64_id (x := rd l (x1 : Int)) (by omega) (by omega), wrap64_id (x := rd l (x1 : Int) * 31) (by omega) (by omega), wrap64_id (x := rd l (x2 : Int)) (by omega) (by omega), wrap64_id (x := rd l (x1 : Int) * 31 + rd l (x2 : Int)) (by omega) (by omega), wrap64_id (x := (w : Int)) (by omega) (by omega), wrap64_id (by omega) (by omega)]
      obtain ⟨m, hm⟩ : ∃ m : Nat, rd l (x1 : Int) * 31 + rd l (x2 : Int) + (w : Int) = m := ⟨(rd l (x1 : Int) * 31 + rd l (x2 : Int) + (w : Int)).toNat, by omega⟩
      rw [hm, Int.tmod_eq_emod_of_nonneg (by omega)]
      exact ⟨m % n, by rw [Int.natCast_emod], Nat.mod_lt _ (by omega)⟩
/-! ### the program's and the reference's number of bytes -/
theorem impl_num_l0 (l : List Int) (h : Bytes l) (h7 : l.length ≤ 7) (d : Nat) : ∀ i, i + d = l.length → Ev (fun k => impl_num.l0 k (num (l.take i)) l (l.length : Int) (i : Int)) (num l) := by
  induction d with
  | zero =>
    intro i hi
    refine Ev.step (f := fun _ => some (num l)) (fun k => ?_) (Ev.now _)
    simp only [impl_num.l0]; rw [if_neg (by omega), List.take_of_length_le (by omega)]
  | succ d ih =>
    intro i hi
    have hw : wrap64 ((i : Int) + 1) = ((i + 1 : Nat) : Int) := by rw [wrap64_id (by omega) (by omega)]; omega
    have h1 := num_6 h i (by omega) (by omega)
    have h2 := h _ (List.getElem_mem (show i < l.length by omega))
    have h3 := num_take l i (by omega)
    refine Ev.step (fun k => ?_) (ih (i + 1) (by omega))
    simp only [impl_num.l0, hw, rd_at l i (by omega)]
    rw [if_pos (by omega), if_pos (by omega), if_pos (by omega), h3, wrap64_id (x := num (l.take i) * 256) (by omega) (by omega), wrap64_id (x := l[i]) (by omega) (by omega), wrap64_id (by omega) (by omega)]
theorem impl_num_ev (l : List Int) (h : Bytes l) (h7 : l.length ≤ 7) : Ev (fun k => impl_num.f k l) (num l) :=
  impl_num_l0 l h h7 l.length 0 (by omega)

-- SAYS: FnSegments: a drawn segment and a drawn datagram are read back from their bytes; with a bit turned, or between other ends, they are none.
-- USES: Bytes Sum Be Concat Ends Str Ok Ws Src NumS
theorem ends_ws (src dst proto : Int) (l : List Int) (hB : Bytes l) (hl : l.length ≤ 65536) : Ev (fun k => impl_withEnds.f k src dst proto l) (65535 - fold (ws (ahead src dst proto l.length ++ l) (12 + l.length))) := by
  have hW := impl_ws_ev (ahead src dst proto l.length ++ l) (bytes_append (ahead_bytes _ _ _ _) hB) (by rw [List.length_append, ahead_length]; omega)
  rw [List.length_append, ahead_length] at hW
  have hF : [beL src 4, beL dst 4, beL proto 2, beL (l.length : Int) 2, l].flatten = ahead src dst proto l.length ++ l := by
    simp [ahead]
  refine Ev.congr (fun k => by unfold impl_withEnds.f; rfl) ?_
  refine Ev.bind (impl_be_ev src 4 (by omega)) (Ev.bind (impl_be_ev dst 4 (by omega)) (Ev.bind (impl_be_ev proto 2 (by omega)) (Ev.bind (impl_be_ev (l.length : Int) 2 (by omega)) ?_)))
  refine Ev.bind (concat_ev _ (by simp) (by rw [hF, List.length_append, ahead_length]; omega)) ?_
  rw [hF]
  exact Ev.bind hW (Ev.now _)
theorem beL_one (a : Int) (h0 : 0 ≤ a) (h1 : a < 256) : beL a 1 = [a] := by
  show [a / 2 ^ (8 * 0) % 256] = [a]
  rw [show (2 : Int) ^ (8 * 0) = 1 from rfl, Int.ediv_one, Int.emod_eq_of_lt h0 h1]
def sgL (sp dp q a f w c : Int) (d : List Int) : List Int := beL sp 2 ++ (beL dp 2 ++ (beL q 4 ++ (beL a 4 ++ ([80] ++ (beL f 1 ++ (beL w 2 ++ (beL c 2 ++ ([0, 0] ++ d))))))))
theorem sgL_length (sp dp q a f w c : Int) (d : List Int) : (sgL sp dp q a f w c d).length = 20 + d.length := by unfold sgL; simp only [List.length_append, beL_length, List.length_cons, List.length_nil]; omega
theorem sgL_bytes (sp dp q a f w c : Int) (d : List Int) (h : Bytes d) : Bytes (sgL sp dp q a f w c d) := by
  have h1 : Bytes [80] := fun x hx => by simp at hx; omega
  have h2 : Bytes [0, 0] := fun x hx => by simp at hx; omega
  exact bytes_append (beL_bytes _ _) (bytes_append (beL_bytes _ _) (bytes_append (beL_bytes _ _) (bytes_append (beL_bytes _ _) (bytes_append h1 (bytes_append (beL_bytes _ _) (bytes_append (beL_bytes _ _) (bytes_append (beL_bytes _ _) (bytes_append h2 h))))))))
theorem sgL_set (sp dp q a f w c : Int) (d : List Int) : (sgL sp dp q a f w 0 d).take 16 ++ beL c 2 ++ (sgL sp dp q a f w 0 d).drop 18 = sgL sp dp q a f w c d := by
  unfold sgL
  obtain ⟨a1, a2, h1⟩ := beL_two sp
  obtain ⟨b1, b2, h2⟩ := beL_two dp
  obtain ⟨c1, c2, c3, c4, h3⟩ := beL_four q
  obtain ⟨d1, d2, d3, d4, h4⟩ := beL_four a
  obtain ⟨w1, w2, h5⟩ := beL_two w
  obtain ⟨e1, e2, h6⟩ := beL_two 0
  have h7 : beL f 1 = [f / 2 ^ (8 * 0) % 256] := rfl
  rw [h1, h2, h3, h4, h5, h6, h7]
  simp
theorem sg_head (sp dp q a f w : Int) : ((((((strOfNums (beL sp 2) ++ strOfNums (beL dp 2)) ++ strOfNums (beL q 4)) ++ strOfNums (beL a 4)) ++ (⟨#[80]⟩ : ByteArray)) ++ strOfNums (beL f 1)) ++ strOfNums (beL w 2)) = strOfNums (beL sp 2 ++ (beL dp 2 ++ (beL q 4 ++ (beL a 4 ++ ([80] ++ (beL f 1 ++ beL w 2)))))) := by
  have e1 : (⟨#[80]⟩ : ByteArray) = strOfNums [80] := by decide +kernel
  rw [e1]
  simp only [str_app, List.append_assoc]
theorem sg_str (sp dp q a f w c : Int) (d : ByteArray) : ((strOfNums (beL sp 2 ++ (beL dp 2 ++ (beL q 4 ++ (beL a 4 ++ ([80] ++ (beL f 1 ++ beL w 2)))))) ++ strOfNums (beL c 2)) ++ (⟨#[0, 0]⟩ : ByteArray)) ++ d = strOfNums (sgL sp dp q a f w c (bytesOf d)) := by
  have e1 : (⟨#[0, 0]⟩ : ByteArray) = strOfNums [0, 0] := by decide +kernel
  rw [e1]
  unfold sgL
  conv => lhs; rw [← str_bytesOf d]
  simp only [str_app, List.append_assoc]
theorem sg_ahead (A : List Int) (sp dp q a f w : Int) (d : ByteArray) : ((strOfNums A ++ strOfNums (beL sp 2 ++ (beL dp 2 ++ (beL q 4 ++ (beL a 4 ++ ([80] ++ (beL f 1 ++ beL w 2))))))) ++ (⟨#[0, 0, 0, 0]⟩ : ByteArray)) ++ d = strOfNums A ++ strOfNums (sgL sp dp q a f w 0 (bytesOf d)) := by
  have e0 : (⟨#[0, 0, 0, 0]⟩ : ByteArray) = strOfNums (beL 0 2 ++ [0, 0]) := by decide +kernel
  rw [e0]
  unfold sgL
  conv => lhs; rw [← str_bytesOf d]
  simp only [str_app, List.append_assoc]
theorem segment (src dst sp dp q a f w : Int) (d : ByteArray) (hf : 0 ≤ f ∧ f ≤ 31) (hd : d.size ≤ 360) : ∃ r : Int, (0 ≤ r ∧ r ≤ 65535) ∧ r = 65535 - fold (ws (ahead src dst 6 ((20 + d.size : Nat) : Int) ++ sgL sp dp q a f w 0 (bytesOf d)) (12 + (20 + d.size))) ∧ Ev (fun k => spec_l02SegmentBytes.f k src dst sp dp q a f w d) (strOfNums (sgL sp dp q a f w r (bytesOf d))) ∧ Ev (fun k => impl_segmentBytes.f k src dst sp dp q a f w d) (sgL sp dp q a f w r (bytesOf d)) := by
  have hw : wrap64 (20 + (d.size : Int)) = ((20 + d.size : Nat) : Int) := by rw [wrap64_id (by omega) (by omega)]; omega
  have z : ∀ a m, (strOfNums (beL a m)).size = m := fun a m => by rw [str_size, beL_length]
  have z0 : (⟨#[0, 0]⟩ : ByteArray).size = 2 := rfl
  have z1 : (⟨#[80]⟩ : ByteArray).size = 1 := rfl
  have hbl : (bytesOf d).length = d.size := bytesOf_len d
  obtain ⟨l, hl⟩ : ∃ l, l = sgL sp dp q a f w 0 (bytesOf d) := ⟨_, rfl⟩
  have hll : l.length = 20 + d.size := by rw [hl, sgL_length, hbl]
  have hlB : Bytes l := by rw [hl]; exact sgL_bytes _ _ _ _ _ _ _ _ (bytesOf_bytes d)
  have zh : (strOfNums (beL sp 2 ++ (beL dp 2 ++ (beL q 4 ++ (beL a 4 ++ ([80] ++ (beL f 1 ++ beL w 2))))))).size = 16 := by rw [str_size]; simp only [List.length_append, beL_length, List.length_cons, List.length_nil]
  obtain ⟨r, r0, r1, hS, hI⟩ := ends_ev src dst 6 l hlB (by omega)
  have hr : r = 65535 - fold (ws (ahead src dst 6 ((20 + d.size : Nat) : Int) ++ sgL sp dp q a f w 0 (bytesOf d)) (12 + (20 + d.size))) := by
    have e := ev_one hI (ends_ws src dst 6 l hlB (by omega))
    rw [e, ← hl, hll]
  refine ⟨r, ⟨r0, r1⟩, hr, ?_, ?_⟩
  · refine Ev.congr (fun k => by unfold spec_l02SegmentBytes.f; rw [hw]) ?_
    refine Ev.bind (spec_number_ev sp 2 (by omega)) (Ev.bind (spec_number_ev dp 2 (by omega)) ?_)
    refine Ev.congr (fun k => by rw [if_pos (by simp only [z]; omega)]) ?_
    refine Ev.bind (spec_number_ev q 4 (by omega)) ?_
    refine Ev.congr (fun k => by rw [if_pos (by simp only [size_app, z]; omega)]) ?_
    refine Ev.bind (spec_number_ev a 4 (by omega)) ?_
    refine Ev.congr (fun k => by rw [if_pos (by simp only [size_app, z]; omega), if_pos (by simp only [size_app, z]; omega)]) ?_
    refine Ev.bind (spec_number_ev f 1 (by omega)) ?_
    refine Ev.congr (fun k => by rw [if_pos (by simp only [size_app, z, z1]; omega)]) ?_
    refine Ev.bind (spec_number_ev w 2 (by omega)) ?_
    refine Ev.congr (fun k => by rw [if_pos (by simp only [size_app, z, z1]; omega)]) ?_
    refine Ev.bind (pseudo_ev src dst 6 ((20 + d.size : Nat) : Int) (by omega)) ?_
    have z4 : (⟨#[0, 0, 0, 0]⟩ : ByteArray).size = 4 := rfl
    refine Ev.congr (fun k => by rw [sg_head, if_pos (by simp only [zh, str_size, ahead_length]; omega), if_pos (by simp only [size_app, zh, str_size, ahead_length]; omega), if_pos (by simp only [size_app, zh, z4, str_size, ahead_length]; omega), sg_ahead, ← hl, ← hll]) ?_
    refine Ev.bind hS ?_
    refine Ev.bind (spec_number_ev r 2 (by omega)) ?_
    refine Ev.congr (fun k => by rw [if_pos (by simp only [z, zh]; omega), if_pos (by simp only [size_app, z, zh]; omega), if_pos (by simp only [size_app, z, zh, z0]; omega), sg_str]) (Ev.now _)
  · refine Ev.congr (fun k => by unfold impl_segmentBytes.f; rfl) ?_
    refine Ev.bind (impl_be_ev sp 2 (by omega)) (Ev.bind (impl_be_ev dp 2 (by omega)) (Ev.bind (impl_be_ev q 4 (by omega)) (Ev.bind (impl_be_ev a 4 (by omega)) (Ev.bind (impl_be_ev w 2 (by omega)) ?_))))
    have hF : ([beL sp 2, beL dp 2, beL q 4, beL a 4, [80, f % 256], beL w 2, List.replicate 4 0, bytesOf d] : List (List Int)).flatten = l := by
      rw [hl]; unfold sgL
      rw [beL_one f (by omega) (by omega), Int.emod_eq_of_lt (by omega) (by omega), show beL 0 2 = [0, 0] from rfl]; simp
    refine Ev.congr (fun k => by rw [if_pos (by omega), if_pos (by omega)]) ?_
    refine Ev.bind (concat_ev _ (by simp) (by rw [hF]; omega)) ?_
    rw [hF]
    refine Ev.congr (fun k => by rw [if_pos (by omega)]) ?_
    refine Ev.bind hI ?_
    refine Ev.bind (impl_be_ev r 2 (by omega)) ?_
    have hc : (16 : Int).toNat + (beL r 2).length = 18 := by rw [beL_length]; rfl
    have h6 : (16 : Int).toNat = 16 := rfl
    refine Ev.congr (fun k => by rw [hc, h6, if_pos (by omega), hl, sgL_set]) (Ev.now _)
theorem spec_segment_ok (sp dp q a f w : Int) (d : ByteArray) : spec_l02Segment.f sp dp q a f w d = some (decide ((0 ≤ sp ∧ sp ≤ 65535) ∧ (0 ≤ dp ∧ dp ≤ 65535) ∧ (0 ≤ q ∧ q ≤ 4294967295) ∧ (0 ≤ a ∧ a ≤ 4294967295) ∧ (0 ≤ f ∧ f ≤ 31) ∧ (0 ≤ w ∧ w ≤ 65535) ∧ (d.size : Int) ≤ 360)) := by
  simp only [spec_l02Segment.f, spec_l01Ip.f, spec_l02Port.f, in_spec, Option.bind_some, some_ite, ← Bool.decide_and]
theorem impl_segment_ok (sp dp q a f w : Int) (d : ByteArray) : impl_segmentOK.f sp dp q a f w d = some (decide ((0 ≤ sp ∧ sp ≤ 65535) ∧ (0 ≤ dp ∧ dp ≤ 65535) ∧ (0 ≤ q ∧ q ≤ 4294967295) ∧ (0 ≤ a ∧ a ≤ 4294967295) ∧ (0 ≤ f ∧ f ≤ 31) ∧ (0 ≤ w ∧ w ≤ 65535) ∧ (d.size : Int) ≤ 360)) := by
  simp only [impl_segmentOK.f, impl_isAddress.f, impl_isPort.f, in_impl, Option.bind_some, some_ite, ← Bool.decide_and]
def dgL (sp dp n s : Int) (d : List Int) : List Int := beL sp 2 ++ (beL dp 2 ++ (beL n 2 ++ (beL s 2 ++ d)))
theorem dgL_length (sp dp n s : Int) (d : List Int) : (dgL sp dp n s d).length = 8 + d.length := by unfold dgL; simp only [List.length_append, beL_length]; omega
theorem dgL_bytes (sp dp n s : Int) (d : List Int) (h : Bytes d) : Bytes (dgL sp dp n s d) :=
  bytes_append (beL_bytes _ _) (bytes_append (beL_bytes _ _) (bytes_append (beL_bytes _ _) (bytes_append (beL_bytes _ _) h)))
theorem dgL_set (sp dp n s : Int) (d : List Int) : (dgL sp dp n 0 d).take 6 ++ beL s 2 ++ (dgL sp dp n 0 d).drop 8 = dgL sp dp n s d := by
  unfold dgL
  obtain ⟨a1, a2, ha⟩ := beL_two sp
  obtain ⟨b1, b2, hb⟩ := beL_two dp
  obtain ⟨c1, c2, hc⟩ := beL_two n
  obtain ⟨e1, e2, he⟩ := beL_two 0
  rw [ha, hb, hc, he]
  simp
theorem beL_0 : beL 0 2 = [0, 0] := rfl
theorem dg_str (sp dp n s : Int) (d : ByteArray) : ((strOfNums (beL sp 2) ++ strOfNums (beL dp 2)) ++ strOfNums (beL n 2)) ++ strOfNums (beL s 2) ++ d = strOfNums (dgL sp dp n s (bytesOf d)) := by
  unfold dgL
  conv => lhs; rw [← str_bytesOf d]
  simp only [str_app, List.append_assoc]
theorem dg_ahead (A : List Int) (sp dp n : Int) (d : ByteArray) : ((strOfNums A ++ ((strOfNums (beL sp 2) ++ strOfNums (beL dp 2)) ++ strOfNums (beL n 2))) ++ (⟨#[0, 0]⟩ : ByteArray)) ++ d = strOfNums A ++ strOfNums (dgL sp dp n 0 (bytesOf d)) := by
  have e0 : (⟨#[0, 0]⟩ : ByteArray) = strOfNums (beL 0 2) := by decide +kernel
  rw [e0]
  unfold dgL
  conv => lhs; rw [← str_bytesOf d]
  simp only [str_app, List.append_assoc]
theorem datagram (src dst sp dp : Int) (d : ByteArray) (hd : d.size ≤ 372) : ∃ r s : Int, (0 ≤ r ∧ r ≤ 65535) ∧ s = (if r = 0 then 65535 else r) ∧ r = 65535 - fold (ws (ahead src dst 17 ((8 + d.size : Nat) : Int) ++ dgL sp dp ((8 + d.size : Nat) : Int) 0 (bytesOf d)) (12 + (8 + d.size))) ∧ Ev (fun k => spec_l02DatagramBytes.f k src dst sp dp d) (strOfNums (dgL sp dp ((8 + d.size : Nat) : Int) s (bytesOf d))) ∧ Ev (fun k => impl_datagramBytes.f k src dst sp dp d) (dgL sp dp ((8 + d.size : Nat) : Int) s (bytesOf d)) := by
  have hw : wrap64 (8 + (d.size : Int)) = ((8 + d.size : Nat) : Int) := by rw [wrap64_id (by omega) (by omega)]; omega
  have z : ∀ a m, (strOfNums (beL a m)).size = m := fun a m => by rw [str_size, beL_length]
  have z0 : (⟨#[0, 0]⟩ : ByteArray).size = 2 := rfl
  have hbl : (bytesOf d).length = d.size := bytesOf_len d
  obtain ⟨l, hl⟩ : ∃ l, l = dgL sp dp ((8 + d.size : Nat) : Int) 0 (bytesOf d) := ⟨_, rfl⟩
  have hll : l.length = 8 + d.size := by rw [hl, dgL_length, hbl]
  have hlB : Bytes l := by rw [hl]; exact dgL_bytes _ _ _ _ _ (bytesOf_bytes d)
  obtain ⟨r, r0, r1, hS, hI⟩ := ends_ev src dst 17 l hlB (by omega)
  obtain ⟨s, hs⟩ : ∃ s, s = if r = 0 then 65535 else r := ⟨_, rfl⟩
  have hr : r = 65535 - fold (ws (ahead src dst 17 ((8 + d.size : Nat) : Int) ++ dgL sp dp ((8 + d.size : Nat) : Int) 0 (bytesOf d)) (12 + (8 + d.size))) := by
    have e := ev_one hI (ends_ws src dst 17 l hlB (by omega))
    rw [e, ← hl, hll]
  refine ⟨r, s, ⟨r0, r1⟩, hs, hr, ?_, ?_⟩
  · refine Ev.congr (fun k => by unfold spec_l02DatagramBytes.f; rw [hw]) ?_
    refine Ev.bind (spec_number_ev sp 2 (by omega)) (Ev.bind (spec_number_ev dp 2 (by omega)) ?_)
    refine Ev.congr (fun k => by rw [if_pos (by simp only [z]; omega)]) ?_
    refine Ev.bind (spec_number_ev ((8 + d.size : Nat) : Int) 2 (by omega)) ?_
    refine Ev.congr (fun k => by rw [if_pos (by simp only [size_app, z]; omega)]) ?_
    refine Ev.bind (pseudo_ev src dst 17 ((8 + d.size : Nat) : Int) (by omega)) ?_
    refine Ev.congr (fun k => by rw [if_pos (by simp only [size_app, z, str_size, ahead_length]; omega), if_pos (by simp only [size_app, z, str_size, ahead_length]; omega), if_pos (by simp only [size_app, z, str_size, ahead_length, z0]; omega), dg_ahead, ← hl, ← hll]) ?_
    refine Ev.bind hS ?_
    have fin : Ev (fun k => spec_l02DatagramBytes.j0 k ((strOfNums (beL sp 2) ++ strOfNums (beL dp 2)) ++ strOfNums (beL (l.length : Int) 2)) s sp dp d) (strOfNums (dgL sp dp ((8 + d.size : Nat) : Int) s (bytesOf d))) := by
      refine Ev.step (fun k => by simp only [spec_l02DatagramBytes.j0]; rfl) ?_
      refine Ev.bind (spec_number_ev s 2 (by omega)) ?_
      refine Ev.congr (fun k => by rw [if_pos (by simp only [size_app, z]; omega), if_pos (by simp only [size_app, z]; omega), hll, dg_str]) (Ev.now _)
    by_cases h0 : r = 0
    · rw [if_pos h0] at hs
      rw [hs] at fin ⊢
      exact Ev.congr (fun k => by rw [if_pos h0]) fin
    · rw [if_neg h0] at hs
      rw [hs] at fin ⊢
      exact Ev.congr (fun k => by rw [if_neg h0]) fin
  · refine Ev.congr (fun k => by unfold impl_datagramBytes.f; rw [hw]) ?_
    refine Ev.bind (impl_be_ev sp 2 (by omega)) (Ev.bind (impl_be_ev dp 2 (by omega)) (Ev.bind (impl_be_ev ((8 + d.size : Nat) : Int) 2 (by omega)) ?_))
    have hF : ([beL sp 2, beL dp 2, beL ((8 + d.size : Nat) : Int) 2, List.replicate 2 0, bytesOf d] : List (List Int)).flatten = l := by
      rw [hl]; unfold dgL; rw [beL_0]; simp
    refine Ev.congr (fun k => by rw [if_pos (by omega), if_pos (by omega)]) ?_
    refine Ev.bind (concat_ev _ (by simp) (by rw [hF]; omega)) ?_
    rw [hF]
    refine Ev.bind hI ?_
    have hc : ∀ t : Int, (6 : Int).toNat + (beL t 2).length = 8 := fun t => by rw [beL_length]; rfl
    have h6 : (6 : Int).toNat = 6 := rfl
    have fin : Ev (fun k => impl_datagramBytes.j0 k l s) (dgL sp dp ((8 + d.size : Nat) : Int) s (bytesOf d)) := by
      refine Ev.step (fun k => by simp only [impl_datagramBytes.j0]; rw [if_pos (by omega)]) ?_
      refine Ev.bind (impl_be_ev s 2 (by omega)) ?_
      refine Ev.congr (fun k => by rw [hc, if_pos (by omega), h6, hl, dgL_set]) (Ev.now _)
    by_cases h0 : r = 0
    · rw [if_pos h0] at hs
      rw [hs] at fin ⊢
      exact Ev.congr (fun k => by rw [if_pos h0]) fin
    · rw [if_neg h0] at hs
      rw [hs] at fin ⊢
      exact Ev.congr (fun k => by rw [if_neg h0]) fin

/-! ### what is read back -/
theorem num_two (a : Int) (h : 0 ≤ a ∧ a < 65536) : num (beL a 2) = a := by
  have e : beL a 2 = [a / 2 ^ (8 * 1) % 256, a / 2 ^ (8 * 0) % 256] := rfl
  rw [e]; simp [num]; omega
theorem num_four (a : Int) (h : 0 ≤ a ∧ a < 4294967296) : num (beL a 4) = a := by
  have e : beL a 4 = [a / 2 ^ (8 * 3) % 256, a / 2 ^ (8 * 2) % 256, a / 2 ^ (8 * 1) % 256, a / 2 ^ (8 * 0) % 256] := rfl
  rw [e]; simp [num]; omega
theorem and_31 : ∀ n : Fin 32, Go.bits .and .i64 (wrap64 ((n.val : Nat) : Int)) 31 = (n.val : Int) := by decide +kernel
theorem and_31' (f : Int) (h : 0 ≤ f ∧ f ≤ 31) : Go.bits .and .i64 (wrap64 f) 31 = f := by
  have := and_31 ⟨f.toNat, by omega⟩
  simp only [Int.toNat_of_nonneg h.1] at this
  exact this
theorem ws_ahead (src dst proto : Int) (l : List Int) (n : Int) : ws (ahead src dst proto n ++ l) (12 + l.length) = ws (ahead src dst proto n) 12 + ws l l.length := by
  have := ws_append (ahead src dst proto n) l (by rw [ahead_length])
  rw [List.length_append, ahead_length] at this
  exact this
/-- A sum that is set where noughts stood: the whole comes to the end of its circle. -/
theorem fold_whole (S r : Int) (h : 0 ≤ S) (hr : r = 65535 - fold S) : fold (S + r) = 65535 := by
  subst hr
  unfold fold
  split
  · rw [if_neg (by omega)]; omega
  · rw [if_neg (by omega)]; omega
theorem fold_whole' (S r : Int) (h : 0 ≤ S) (hr : r = 65535 - fold S) (hz : r = 0) : fold (S + 65535) = 65535 := by
  unfold fold at *
  split at hr
  · omega
  · rw [if_neg (by omega)]; omega
theorem fold_next (S : Int) (h : 0 ≤ S) (hf : fold S = 65535) : fold (S + 1) ≠ 65535 := by
  unfold fold at *
  split at hf
  · omega
  · rw [if_neg (by omega)]; omega
theorem ws_set_word (t u : List Int) (c : Int) (he : t.length % 2 = 0) (h : 0 ≤ c ∧ c < 65536) : ws (t ++ (beL c 2 ++ u)) (t ++ (beL c 2 ++ u)).length = ws (t ++ (beL 0 2 ++ u)) (t ++ (beL 0 2 ++ u)).length + c := by
  rw [ws_append t _ he, ws_append t _ he, ws_append (beL c 2) u (by rw [beL_length]), ws_append (beL 0 2) u (by rw [beL_length]), ws_be c h.1 h.2, ws_be 0 (by omega) (by omega)]
  omega
theorem ws_ends (src dst proto n : Int) (hs : 0 ≤ src ∧ src ≤ 100) (hd : 0 ≤ dst ∧ dst ≤ 100) (hp : 0 ≤ proto ∧ proto ≤ 100) (hn : 0 ≤ n ∧ n ≤ 1000) : ws (ahead src dst proto n) 12 = src + dst + proto + n := by
  have e4 : ∀ a : Int, 0 ≤ a ∧ a ≤ 100 → beL a 4 = [0, 0, 0, a] := fun a ha => by
    have e : beL a 4 = [a / 2 ^ (8 * 3) % 256, a / 2 ^ (8 * 2) % 256, a / 2 ^ (8 * 1) % 256, a / 2 ^ (8 * 0) % 256] := rfl
    rw [e]
    simp only [List.cons.injEq, and_true]
    refine ⟨?_, ?_, ?_, ?_⟩ <;> omega
  have a1 : ws (ahead src dst proto n) 12 = ws (beL src 4 ++ (beL dst 4 ++ (beL proto 2 ++ beL n 2))) (beL src 4 ++ (beL dst 4 ++ (beL proto 2 ++ beL n 2))).length := by
    unfold ahead; simp only [List.length_append, beL_length]
  have w4 : ∀ a : Int, ws [0, 0, 0, a] [0, 0, 0, a].length = a := fun a => by simp [ws, rd]
  rw [a1, ws_append _ _ (by rw [beL_length]), ws_append _ _ (by rw [beL_length]), ws_append _ _ (by rw [beL_length]), ws_be proto (by omega) (by omega), ws_be n (by omega) (by omega), e4 src hs, e4 dst hd, w4, w4]
  omega
abbrev Sg := Int × Int × Int × Int × Int × Int × ByteArray × Int
abbrev noSg (c : Int) : Sg := (0, 0, 0, 0, 0, 0, ⟨#[]⟩, c)
/-- Whatever is read whose sum isn't right: a code that isn't OK. -/
theorem read_bad (src dst : Int) (l : List Int) (hB : Bytes l) (h1 : 20 ≤ l.length ∧ l.length ≤ 380) (hne : fold (ws (ahead src dst 6 l.length ++ l) (12 + l.length)) ≠ 65535) : ∃ c : Int, (c = 3 ∨ c = 8) ∧ Ev (fun k => impl_readSegment.f k src dst l) (noSg c) ∧ (rd l (12 : Int) = 80 → c = 8) := by
  have b12 := rd_byte hB 12
  have hb : 0 ≤ rd l (12 : Int) ∧ rd l (12 : Int) < 256 := b12
  obtain ⟨n, hn⟩ : ∃ n : Int, n = IntKind.u8.wrap (Int.tdiv (rd l 12) 16) * 4 := ⟨_, rfl⟩
  have sumE := ends_ws src dst 6 l hB (by omega)
  have iT : Ev (fun k => impl_readSegment.j0 k src dst l true) (noSg 3) := Ev.step (fun k => by simp only [impl_readSegment.j0]; rw [if_pos trivial]) (Ev.now _)
  have iF : Ev (fun k => impl_readSegment.j0 k src dst l false) (noSg 8) := by
    refine Ev.step (fun k => by simp only [impl_readSegment.j0]; rw [if_neg (by decide)]) ?_
    refine Ev.bind sumE ?_
    exact Ev.congr (fun k => by rw [if_neg (by omega)]) (Ev.now _)
  have top : ∀ r : Sg, Ev (fun k => impl_readSegment.j0 k src dst l (!decide (20 ≤ n ∧ n ≤ (l.length : Int)))) r → Ev (fun k => impl_readSegment.f k src dst l) r := fun r h => by
    refine Ev.congr (fun k => ?_) h
    unfold impl_readSegment.f
    rw [in_impl, decide_eq_true (by omega), Option.bind_some, if_pos rfl, if_pos (by omega), in_impl, Option.bind_some, ← hn]
  by_cases h : 20 ≤ n ∧ n ≤ (l.length : Int)
  · rw [decide_eq_true h] at top
    exact ⟨8, .inr rfl, top _ iF, fun _ => rfl⟩
  · rw [decide_eq_false h] at top
    refine ⟨3, .inl rfl, top _ iT, fun h80 => ?_⟩
    have : n = 20 := by rw [hn, h80]; decide +kernel
    omega
theorem read_good (src dst sp dp q a f w r : Int) (d : ByteArray) (h1 : 0 ≤ sp ∧ sp < 65536) (h2 : 0 ≤ dp ∧ dp < 65536) (h3 : 0 ≤ q ∧ q < 4294967296) (h4 : 0 ≤ a ∧ a < 4294967296) (h5 : 0 ≤ f ∧ f ≤ 31) (h6 : 0 ≤ w ∧ w < 65536) (hd : d.size ≤ 360)
    (hs : fold (ws (ahead src dst 6 ((sgL sp dp q a f w r (bytesOf d)).length : Nat) ++ sgL sp dp q a f w r (bytesOf d)) (12 + (sgL sp dp q a f w r (bytesOf d)).length)) = 65535) :
    Ev (fun k => impl_readSegment.f k src dst (sgL sp dp q a f w r (bytesOf d))) ((sp, dp, q, a, f, w, d, 0) : Sg) := by
  have hbl : (bytesOf d).length = d.size := bytesOf_len d
  have hlB : Bytes (sgL sp dp q a f w r (bytesOf d)) := sgL_bytes _ _ _ _ _ _ _ _ (bytesOf_bytes d)
  have hll : (sgL sp dp q a f w r (bytesOf d)).length = 20 + d.size := by rw [sgL_length, hbl]
  have sumE := ends_ws src dst 6 _ hlB (by omega)
  rw [hs] at sumE
  have n1 := num_two sp h1
  have n2 := num_two dp h2
  have n3 := num_four q h3
  have n4 := num_four a h4
  have n6 := num_two w h6
  have parts : (sgL sp dp q a f w r (bytesOf d)).take 2 = beL sp 2 ∧ ((sgL sp dp q a f w r (bytesOf d)).take 4).drop 2 = beL dp 2 ∧ ((sgL sp dp q a f w r (bytesOf d)).take 8).drop 4 = beL q 4 ∧ ((sgL sp dp q a f w r (bytesOf d)).take 12).drop 8 = beL a 4 ∧ ((sgL sp dp q a f w r (bytesOf d)).take 16).drop 14 = beL w 2 ∧ (sgL sp dp q a f w r (bytesOf d)).drop 20 = bytesOf d ∧ rd (sgL sp dp q a f w r (bytesOf d)) 12 = 80 ∧ rd (sgL sp dp q a f w r (bytesOf d)) 13 = f := by
    have e7 := beL_one f (by omega) (by omega)
    unfold sgL
    obtain ⟨a1, a2, g1⟩ := beL_two sp
    obtain ⟨b1, b2, g2⟩ := beL_two dp
    obtain ⟨c1, c2, c3, c4, g3⟩ := beL_four q
    obtain ⟨d1, d2, d3, d4, g4⟩ := beL_four a
    obtain ⟨w1, w2, g5⟩ := beL_two w
    obtain ⟨x1, x2, g6⟩ := beL_two r
    rw [g1, g2, g3, g4, g5, g6, e7]
    simp [rd]
  obtain ⟨p1, p2, p3, p4, p5, p6, p7, p8⟩ := parts
  generalize sgL sp dp q a f w r (bytesOf d) = l at *
  have hoff : IntKind.u8.wrap (Int.tdiv 80 16) * 4 = 20 := by decide +kernel
  have b : ∀ x y : Int, Bytes (beL x 2) := fun x _ => beL_bytes x 2
  refine Ev.congr (f := fun k => impl_readSegment.j0 k src dst l false) (fun k => ?_) ?_
  · unfold impl_readSegment.f
    rw [in_impl, decide_eq_true (by omega), Option.bind_some, if_pos rfl, if_pos (by omega), in_impl, Option.bind_some, p7, hoff, decide_eq_true (by omega)]; rfl
  · refine Ev.step (fun k => by simp only [impl_readSegment.j0]; rw [if_neg (by decide)]) ?_
    refine Ev.bind sumE ?_
    refine Ev.congr (fun k => by rw [if_pos (by omega), if_pos (by omega), p1]) ?_
    refine Ev.bind (impl_num_ev _ (beL_bytes sp 2) (by rw [beL_length]; omega)) ?_
    refine Ev.congr (fun k => by rw [if_pos (by omega), if_pos (by omega), p2]) ?_
    refine Ev.bind (impl_num_ev _ (beL_bytes dp 2) (by rw [beL_length]; omega)) ?_
    refine Ev.congr (fun k => by rw [if_pos (by omega), if_pos (by omega), p3]) ?_
    refine Ev.bind (impl_num_ev _ (beL_bytes q 4) (by rw [beL_length]; omega)) ?_
    refine Ev.congr (fun k => by rw [if_pos (by omega), if_pos (by omega), p4]) ?_
    refine Ev.bind (impl_num_ev _ (beL_bytes a 4) (by rw [beL_length]; omega)) ?_
    refine Ev.congr (fun k => by rw [if_pos (by omega), if_pos (by omega), if_pos (by omega), p5]) ?_
    refine Ev.bind (impl_num_ev _ (beL_bytes w 2) (by rw [beL_length]; omega)) ?_
    refine Ev.congr (fun k => by rw [if_pos (by omega), p7, p8, hoff, if_pos (by omega), if_pos (by omega), n1, n2, n3, n4, n6, and_31' f h5, show ((20 : Int)).toNat = 20 from rfl, p6, str_bytesOf]) (Ev.now _)
theorem asked_ok (src dst : Int) (l : List Int) (hs : 0 ≤ src ∧ src ≤ 100) (hd : 0 ≤ dst ∧ dst ≤ 100) (hl : l.length ≤ 65536) : impl_askedBytes.f src dst l = some 0 := by
  unfold impl_askedBytes.f
  rw [if_neg (by omega)]
  simp only [impl_isAddress.f, in_impl, Option.bind_some]
  rw [decide_eq_true (by omega), if_pos rfl, decide_eq_true (by omega), if_pos rfl]
theorem Read_ev (src dst : Int) (l : List Int) (r : Sg) (hs : 0 ≤ src ∧ src ≤ 100) (hd : 0 ≤ dst ∧ dst ≤ 100) (hl : l.length ≤ 65536) (h : Ev (fun k => impl_readSegment.f k src dst l) r) : Ev (fun k => impl_ReadSegment.f k src dst l) r := by
  refine Ev.congr (fun k => by unfold impl_ReadSegment.f; rw [asked_ok src dst l hs hd hl, Option.bind_some, if_pos rfl]) ?_
  exact Ev.bind h (Ev.now _)
abbrev Dg := Int × Int × ByteArray × Int
theorem readD_good (src dst sp dp s : Int) (d : ByteArray) (h1 : 0 ≤ sp ∧ sp < 65536) (h2 : 0 ≤ dp ∧ dp < 65536) (h3 : 1 ≤ s ∧ s < 65536) (hd : d.size ≤ 372) (c : Int)
    (hs : 65535 - fold (ws (ahead src dst 17 ((dgL sp dp ((8 + d.size : Nat) : Int) s (bytesOf d)).length : Nat) ++ dgL sp dp ((8 + d.size : Nat) : Int) s (bytesOf d)) (12 + (dgL sp dp ((8 + d.size : Nat) : Int) s (bytesOf d)).length)) = c) :
    Ev (fun k => impl_readDatagram.f k src dst (dgL sp dp ((8 + d.size : Nat) : Int) s (bytesOf d))) (if c = 0 then (sp, dp, d, 0) else (0, 0, ⟨#[]⟩, 8) : Dg) := by
  have hbl : (bytesOf d).length = d.size := bytesOf_len d
  have hlB : Bytes (dgL sp dp ((8 + d.size : Nat) : Int) s (bytesOf d)) := dgL_bytes _ _ _ _ _ (bytesOf_bytes d)
  have hll : (dgL sp dp ((8 + d.size : Nat) : Int) s (bytesOf d)).length = 8 + d.size := by rw [dgL_length, hbl]
  have sumE := ends_ws src dst 17 _ hlB (by omega)
  rw [hs] at sumE
  have n1 := num_two sp h1
  have n2 := num_two dp h2
  have n3 := num_two ((8 + d.size : Nat) : Int) (by omega)
  have n4 := num_two s (by omega)
  have parts : (dgL sp dp ((8 + d.size : Nat) : Int) s (bytesOf d)).take 2 = beL sp 2 ∧ ((dgL sp dp ((8 + d.size : Nat) : Int) s (bytesOf d)).take 4).drop 2 = beL dp 2 ∧ ((dgL sp dp ((8 + d.size : Nat) : Int) s (bytesOf d)).take 6).drop 4 = beL ((8 + d.size : Nat) : Int) 2 ∧ ((dgL sp dp ((8 + d.size : Nat) : Int) s (bytesOf d)).take 8).drop 6 = beL s 2 ∧ (dgL sp dp ((8 + d.size : Nat) : Int) s (bytesOf d)).drop 8 = bytesOf d := by
    unfold dgL
    obtain ⟨a1, a2, g1⟩ := beL_two sp
    obtain ⟨b1, b2, g2⟩ := beL_two dp
    obtain ⟨c1, c2, g3⟩ := beL_two ((8 + d.size : Nat) : Int)
    obtain ⟨x1, x2, g4⟩ := beL_two s
    rw [g1, g2, g3, g4]
    simp
  obtain ⟨p1, p2, p3, p4, p5⟩ := parts
  generalize dgL sp dp ((8 + d.size : Nat) : Int) s (bytesOf d) = l at *
  have jF : Ev (fun k => impl_readDatagram.j1 k l false) ((sp, dp, d, 0) : Dg) := by
    refine Ev.step (fun k => by simp only [impl_readDatagram.j1]; rw [if_neg (by decide), if_pos (by omega), p1]) ?_
    refine Ev.bind (impl_num_ev _ (beL_bytes sp 2) (by rw [beL_length]; omega)) ?_
    refine Ev.congr (fun k => by rw [if_pos (by omega), if_pos (by omega), p2]) ?_
    refine Ev.bind (impl_num_ev _ (beL_bytes dp 2) (by rw [beL_length]; omega)) ?_
    refine Ev.congr (fun k => by rw [if_pos (by omega), n1, n2, p5, str_bytesOf]) (Ev.now _)
  have jT : Ev (fun k => impl_readDatagram.j1 k l true) ((0, 0, ⟨#[]⟩, 8) : Dg) := Ev.step (fun k => by simp only [impl_readDatagram.j1]; rw [if_pos trivial]) (Ev.now _)
  have jC : Ev (fun k => impl_readDatagram.j1 k l (c != 0)) (if c = 0 then (sp, dp, d, 0) else (0, 0, ⟨#[]⟩, 8) : Dg) := by
    by_cases hc : c = 0
    · rw [if_pos hc, show (c != 0) = false by rw [hc]; rfl]; exact jF
    · rw [if_neg hc, show (c != 0) = true from bne_iff_ne.2 hc]; exact jT
  refine Ev.congr (fun k => by unfold impl_readDatagram.f; rw [in_impl, decide_eq_true (by omega), Option.bind_some, if_pos rfl, if_pos (by omega), if_pos (by omega), p3]) ?_
  refine Ev.bind (impl_num_ev _ (beL_bytes _ 2) (by rw [beL_length]; omega)) ?_
  refine Ev.congr (fun k => by rw [n3, show (((8 + d.size : Nat) : Int) != (l.length : Int)) = false from bne_eq_false_iff_eq.2 (by omega)]) ?_
  refine Ev.step (fun k => by simp only [impl_readDatagram.j0]; rw [if_neg (by decide), if_pos (by omega), if_pos (by omega), p4]) ?_
  refine Ev.bind (impl_num_ev _ (beL_bytes s 2) (by rw [beL_length]; omega)) ?_
  refine Ev.congr (fun k => by rw [n4, if_neg (by omega)]) ?_
  exact Ev.bind sumE jC
theorem ReadD_ev (src dst : Int) (l : List Int) (r : Dg) (hs : 0 ≤ src ∧ src ≤ 100) (hd : 0 ≤ dst ∧ dst ≤ 100) (hl : l.length ≤ 65536) (h : Ev (fun k => impl_readDatagram.f k src dst l) r) : Ev (fun k => impl_ReadDatagram.f k src dst l) r := by
  refine Ev.congr (fun k => by unfold impl_ReadDatagram.f; rw [asked_ok src dst l hs hd hl, Option.bind_some, if_pos rfl]) ?_
  exact Ev.bind h (Ev.now _)
/-! ### what is drawn -/
theorem src_next3 {l : List Int} (h : Bytes l) (at_ sd n : Int) (h0 : 0 ≤ at_ ∧ at_ ≤ 1000000) (h1 : 0 ≤ sd ∧ sd < 2147483648) (hn : 256 < n ∧ n ≤ 100000) : ∃ r a q : Int, spec_l00Src_next.f l at_ sd n = some (r, a, q) ∧ (0 ≤ r ∧ r < n) ∧ (at_ ≤ a ∧ a ≤ at_ + 3) ∧ (0 ≤ q ∧ q < 2147483648) := by
  unfold spec_l00Src_next.f
  obtain ⟨r1, q1, e1, b1, c1⟩ := src_byte h at_ sd (by omega) h1
  obtain ⟨r2, q2, e2, b2, c2⟩ := src_byte h (at_ + 1) q1 (by omega) c1
  obtain ⟨r3, q3, e3, b3, c3⟩ := src_byte h (at_ + 1 + 1) q2 (by omega) c2
  rw [if_neg (by omega), if_neg (by omega), e1, Option.bind_some, e2, Option.bind_some, e3, Option.bind_some, if_neg (by omega)]
  refine ⟨_, at_ + 1 + 1 + 1, q3, rfl, ?_, by omega, c3⟩
  rw [wrap64_id (x := r1 * 65536) (by omega) (by omega), wrap64_id (x := r2 * 256) (by omega) (by omega), wrap64_id (x := r1 * 65536 + r2 * 256) (by omega) (by omega), wrap64_id (by omega) (by omega), Int.tmod_eq_emod_of_nonneg (by omega)]
  exact ⟨Int.emod_nonneg _ (by omega), Int.emod_lt_of_pos _ (by omega)⟩
theorem src_pick {l : List Int} (h : Bytes l) (at_ sd : Int) (h0 : 0 ≤ at_ ∧ at_ ≤ 1000000) (h1 : 0 ≤ sd ∧ sd < 2147483648) : ∃ (d : ByteArray) (a q : Int), spec_l00Src_pick.f l at_ sd [(⟨#[]⟩ : ByteArray), (⟨#[120]⟩ : ByteArray), (⟨#[100, 97, 116, 97]⟩ : ByteArray)] = some (d, a, q) ∧ d.size ≤ 4 := by
  unfold spec_l00Src_pick.f
  obtain ⟨r, a, q, e, b, _, c⟩ := src_next h at_ sd 3 (by omega) h1 (by omega)
  have e' : spec_l00Src_next.f l at_ sd (([(⟨#[]⟩ : ByteArray), (⟨#[120]⟩ : ByteArray), (⟨#[100, 97, 116, 97]⟩ : ByteArray)].length : Nat) : Int) = some (r, a, q) := e
  have hl : (([(⟨#[]⟩ : ByteArray), (⟨#[120]⟩ : ByteArray), (⟨#[100, 97, 116, 97]⟩ : ByteArray)].length : Nat) : Int) = 3 := rfl
  rw [if_neg (by omega), e', Option.bind_some, if_pos b.1, if_pos (by omega)]
  refine ⟨_, _, _, rfl, ?_⟩
  rcases (show r = 0 ∨ r = 1 ∨ r = 2 by omega) with rfl | rfl | rfl
  · show (0 : Nat) ≤ 4; omega
  · show (1 : Nat) ≤ 4; omega
  · show (4 : Nat) ≤ 4; omega
theorem rd_port (y : List Int) (i : Int) (hi : 0 ≤ i ∧ i < 3) (h : ∀ x ∈ y, 0 ≤ x ∧ x < 65536) : 0 ≤ rd y i ∧ rd y i < 65536 := by
  obtain ⟨n, rfl⟩ : ∃ n : Nat, i = n := ⟨i.toNat, by omega⟩
  by_cases hn : n < y.length
  · rw [rd_at y n hn]; exact h _ (List.getElem_mem hn)
  · rw [rd_nat, List.getD_eq_getElem?_getD, List.getElem?_eq_none (by omega)]; simp
theorem segmentOf {l : List Int} (h : Bytes l) (hl : l.length ≤ 1048576) : ∃ (sp dp q a f : Int) (d : ByteArray), spec_SegmentOf.f l = some (sp, dp, q, a, f, 1000, d) ∧ (0 ≤ sp ∧ sp < 65536) ∧ (0 ≤ dp ∧ dp < 65536) ∧ (0 ≤ q ∧ q < 300) ∧ (0 ≤ a ∧ a < 300) ∧ (0 ≤ f ∧ f ≤ 31) ∧ d.size ≤ 4 := by
  obtain ⟨r1, a1, q1, e1, b1, c1, d1⟩ := src_next h 0 ((l.length : Int) % 1000) 3 (by omega) (by omega) (by omega)
  obtain ⟨r2, a2, q2, e2, b2, c2, d2⟩ := src_next h a1 q1 3 (by omega) d1 (by omega)
  obtain ⟨r3, a3, q3, e3, b3, c3, d3⟩ := src_next3 h a2 q2 300 (by omega) d2 (by omega)
  obtain ⟨r4, a4, q4, e4, b4, c4, d4⟩ := src_next3 h a3 q3 300 (by omega) d3 (by omega)
  obtain ⟨r5, a5, q5, e5, b5, c5, d5⟩ := src_next h a4 q4 32 (by omega) d4 (by omega)
  obtain ⟨d, a6, q6, e6, b6⟩ := src_pick h a5 q5 (by omega) d5
  refine ⟨1000 + r1, rd [80, 443, 22] r2, r3, r4, r5, d, ?_, by omega, rd_port _ r2 b2 (fun x hx => by simp at hx; omega), b3, b4, by omega, b6⟩
  have hl3 : (([80, 443, 22] : List Int).length : Int) = 3 := rfl
  unfold spec_SegmentOf.f spec_l00Source.f spec_l00Src_segment.f
  rw [Option.bind_some]
  rw [e1, Option.bind_some, Option.bind_some, e2, Option.bind_some, if_pos b2.1, if_pos (by omega), e3, Option.bind_some, e4, Option.bind_some, e5, Option.bind_some, e6, Option.bind_some, Option.bind_some, wrap64_id (by omega) (by omega)]
theorem datagramOf {l : List Int} (h : Bytes l) (hl : l.length ≤ 1048576) : ∃ (sp dp : Int) (d : ByteArray), spec_DatagramOf.f l = some (sp, dp, d) ∧ (0 ≤ sp ∧ sp < 65536) ∧ (0 ≤ dp ∧ dp < 65536) ∧ d.size ≤ 4 := by
  obtain ⟨r1, a1, q1, e1, b1, c1, d1⟩ := src_next h 0 ((l.length : Int) % 1000) 3 (by omega) (by omega) (by omega)
  obtain ⟨r2, a2, q2, e2, b2, c2, d2⟩ := src_next h a1 q1 3 (by omega) d1 (by omega)
  obtain ⟨d, a6, q6, e6, b6⟩ := src_pick h a2 q2 (by omega) d2
  refine ⟨1000 + r1, rd [53, 67, 123] r2, d, ?_, by omega, rd_port _ r2 b2 (fun x hx => by simp at hx; omega), b6⟩
  have hl3 : (([53, 67, 123] : List Int).length : Int) = 3 := rfl
  unfold spec_DatagramOf.f spec_l00Source.f spec_l00Src_datagram.f
  rw [Option.bind_some]
  rw [e1, Option.bind_some, Option.bind_some, e2, Option.bind_some, if_pos b2.1, if_pos (by omega), e6, Option.bind_some, Option.bind_some, wrap64_id (by omega) (by omega)]
/-! ### the flags' text -/
theorem flags_all : ∀ n : Fin 32, (spec_FlagsText.f 7 ((n.val : Nat) : Int)).map (fun p => (p.1.data.toList, p.2)) = some ((impl_flagsText.out ((n.val : Nat) : Int) 5).data.toList, 0) := by decide +kernel
theorem flags_steps (a : Int) (acc : List Int) (d : Nat) : ∀ (i k : Nat) (acc : List Int) (r : ByteArray × Int), i + d = 5 → spec_FlagsText.l0 (k + d + 1) a acc (i : Int) = some r → Ev (fun k => spec_FlagsText.l0 k a acc (i : Int)) r := by
  induction d with
  | zero =>
    intro i k acc r hi h
    simp only [spec_FlagsText.l0] at h
    rw [if_neg (by omega)] at h
    refine Ev.step (f := fun _ => some r) (fun k => ?_) (Ev.now _)
    simp only [spec_FlagsText.l0]; rw [if_neg (by omega)]; exact h
  | succ d ih =>
    intro i k acc r hi h
    have w1 : wrap64 ((i : Int) + 1) = ((i + 1 : Nat) : Int) := by rw [wrap64_id (by omega) (by omega)]; omega
    rw [show k + (d + 1) + 1 = (k + d + 1) + 1 by omega] at h
    simp only [spec_FlagsText.l0] at h
    rw [if_pos (by omega)] at h
    split at h
    · rename_i h2
      split at h
      · rename_i h3
        split at h
        · rename_i h4
          split at h
          · rename_i h5
            rw [w1] at h
            refine Ev.step (fun k => ?_) (ih (i + 1) k _ r (by omega) h)
            simp only [spec_FlagsText.l0]; rw [if_pos (by omega), if_pos h2, if_pos h3, if_pos h4, if_pos h5, w1]
          · cases h
        · cases h
      · rename_i h3
        rw [w1] at h
        refine Ev.step (fun k => ?_) (ih (i + 1) k _ r (by omega) h)
        simp only [spec_FlagsText.l0]; rw [if_pos (by omega), if_pos h2, if_neg h3, w1]
    · cases h
theorem flags_ev (f : Int) (h : 0 ≤ f ∧ f ≤ 31) : ∃ t u : ByteArray, impl_FlagsText.f f = some (t, 0) ∧ t.toList = u.toList ∧ Ev (fun k => spec_FlagsText.f k f) (u, (0 : Int)) := by
  have hn := flags_all ⟨f.toNat, by omega⟩
  simp only [Int.toNat_of_nonneg h.1] at hn
  obtain ⟨⟨u, c⟩, hp, he⟩ := Option.map_eq_some_iff.1 hn
  have h1 := (Prod.mk.inj he).1
  have h2 : c = 0 := (Prod.mk.inj he).2
  subst h2
  refine ⟨impl_flagsText.out f 5, u, ?_, by rw [toList_data, toList_data]; exact h1.symm, ?_⟩
  · unfold impl_FlagsText.f; rw [in_impl, decide_eq_true h, Option.bind_some, if_pos rfl]; rfl
  · unfold spec_FlagsText.f at hp
    rw [in_spec, decide_eq_true h, Option.bind_some, if_pos rfl] at hp
    refine Ev.congr (fun k => by unfold spec_FlagsText.f; rw [in_spec, decide_eq_true h, Option.bind_some, if_pos rfl]) ?_
    exact flags_steps f [] 5 0 1 [] _ rfl hp
/-! ### the law -/
theorem Segment_ev (src dst sp dp q a f w : Int) (d : ByteArray) (hs : 0 ≤ src ∧ src ≤ 100) (hd : 0 ≤ dst ∧ dst ≤ 100) (h1 : 0 ≤ sp ∧ sp < 65536) (h2 : 0 ≤ dp ∧ dp < 65536) (h3 : 0 ≤ q ∧ q ≤ 4294967295) (h4 : 0 ≤ a ∧ a ≤ 4294967295) (h5 : 0 ≤ f ∧ f ≤ 31) (h6 : 0 ≤ w ∧ w < 65536) (h7 : d.size ≤ 360) (L : List Int) (hL : Bytes L) (hll : L.length ≤ 1000)
    (sE : Ev (fun k => spec_l02SegmentBytes.f k src dst sp dp q a f w d) (strOfNums L)) (iE : Ev (fun k => impl_segmentBytes.f k src dst sp dp q a f w d) L) :
    Ev (fun k => spec_SegmentBytes.f k src dst sp dp q a f w d) (L, (0 : Int)) ∧ Ev (fun k => impl_SegmentBytes.f k src dst sp dp q a f w d) (L, (0 : Int)) := by
  have e1 := spec_segment_ok sp dp q a f w d
  have e2 := impl_segment_ok sp dp q a f w d
  rw [decide_eq_true (by omega)] at e1 e2
  constructor
  · refine Ev.congr (f := fun k => spec_SegmentBytes.j0 k src dst false sp dp q a f w d) (fun k => ?_) ?_
    · unfold spec_SegmentBytes.f
      simp only [spec_l01Ip.f, in_spec, Option.bind_some]
      rw [decide_eq_true (by omega), if_pos rfl, decide_eq_true (by omega), if_pos rfl, e1]; rfl
    · refine Ev.step (fun k => by simp only [spec_SegmentBytes.j0]; rw [if_neg (by decide)]) ?_
      refine Ev.bind sE ?_
      refine Ev.congr (fun k => by rw [if_pos (by rw [str_size]; omega), bytesOf_str hL]) (Ev.now _)
  · refine Ev.congr (f := fun k => impl_SegmentBytes.j0 k src dst false sp dp q a f w d) (fun k => ?_) ?_
    · unfold impl_SegmentBytes.f
      simp only [impl_isAddress.f, in_impl, Option.bind_some]
      rw [decide_eq_true (by omega), if_pos rfl, decide_eq_true (by omega), if_pos rfl, e2]; rfl
    · refine Ev.step (fun k => by simp only [impl_SegmentBytes.j0]; rw [if_neg (by decide)]) ?_
      exact Ev.bind iE (Ev.now _)
theorem Datagram_ev (src dst sp dp : Int) (d : ByteArray) (hs : 0 ≤ src ∧ src ≤ 100) (hd : 0 ≤ dst ∧ dst ≤ 100) (h1 : 0 ≤ sp ∧ sp < 65536) (h2 : 0 ≤ dp ∧ dp < 65536) (h7 : d.size ≤ 372) (L : List Int) (hL : Bytes L) (hll : L.length ≤ 1000)
    (sE : Ev (fun k => spec_l02DatagramBytes.f k src dst sp dp d) (strOfNums L)) (iE : Ev (fun k => impl_datagramBytes.f k src dst sp dp d) L) :
    Ev (fun k => spec_DatagramBytes.f k src dst sp dp d) (L, (0 : Int)) ∧ Ev (fun k => impl_DatagramBytes.f k src dst sp dp d) (L, (0 : Int)) := by
  constructor
  · refine Ev.congr (f := fun k => spec_DatagramBytes.j0 k src dst false sp dp d) (fun k => ?_) ?_
    · unfold spec_DatagramBytes.f
      simp only [spec_l01Ip.f, spec_l02Port.f, in_spec, Option.bind_some]
      rw [decide_eq_true (by omega), if_pos rfl, decide_eq_true (by omega), if_pos rfl, decide_eq_true (by omega), if_pos rfl, decide_eq_true (by omega), if_pos rfl, decide_eq_false (by omega)]
    · refine Ev.step (fun k => by simp only [spec_DatagramBytes.j0]; rw [if_neg (by decide)]) ?_
      refine Ev.bind sE ?_
      refine Ev.congr (fun k => by rw [if_pos (by rw [str_size]; omega), bytesOf_str hL]) (Ev.now _)
  · refine Ev.congr (f := fun k => impl_DatagramBytes.j0 k src dst false sp dp d) (fun k => ?_) ?_
    · unfold impl_DatagramBytes.f
      simp only [impl_isAddress.f, impl_isPort.f, in_impl, Option.bind_some]
      rw [decide_eq_true (by omega), if_pos rfl, decide_eq_true (by omega), if_pos rfl, decide_eq_true (by omega), if_pos rfl, decide_eq_true (by omega), if_pos rfl, decide_eq_false (by omega)]
    · refine Ev.step (fun k => by simp only [impl_DatagramBytes.j0]; rw [if_neg (by decide)]) ?_
      exact Ev.bind iE (Ev.now _)
theorem FnSegments : laws_FnSegments.Pure := by
  intro l0 l1 _ _ hw0 _ _ hw1
  apply Ev.rounds
  have hB0 := bytes_wf hw0
  have hB1 := bytes_wf hw1
  have jT : Ev (fun k => laws_FnSegments.j0 k l0 l1 true) true := Ev.step (fun k => by simp only [laws_FnSegments.j0]; rw [if_pos trivial]) (Ev.now _)
  by_cases z0 : l0.length > 1048576
  · exact Ev.congr (fun k => by unfold laws_FnSegments.f; rw [if_pos (by omega)]) jT
  by_cases z1 : l1.length > 1048576
  · exact Ev.congr (fun k => by unfold laws_FnSegments.f; rw [if_neg (by omega), decide_eq_true (by omega)]) jT
  refine Ev.congr (fun k => by unfold laws_FnSegments.f; rw [if_neg (by omega), decide_eq_false (by omega)]) ?_
  obtain ⟨sp, dp, q, a, f, d, hseg, h1, h2, h3, h4, h5, h6⟩ := segmentOf hB0 (by omega)
  obtain ⟨r, hr0, hr, sE, iE⟩ := segment 10 20 sp dp q a f 1000 d h5 (by omega)
  have hbl : (bytesOf d).length = d.size := bytesOf_len d
  have hLB : Bytes (sgL sp dp q a f 1000 r (bytesOf d)) := sgL_bytes _ _ _ _ _ _ _ _ (bytesOf_bytes d)
  have hll : (sgL sp dp q a f 1000 r (bytesOf d)).length = 20 + d.size := by rw [sgL_length, hbl]
  obtain ⟨sE2, iE2⟩ := Segment_ev 10 20 sp dp q a f 1000 d (by omega) (by omega) h1 h2 (by omega) (by omega) h5 (by omega) (by omega) _ hLB (by omega) sE iE
  -- the sum
  have hz : (sgL sp dp q a f 1000 0 (bytesOf d)).length = 20 + d.size := by rw [sgL_length, hbl]
  have wsE : ws (sgL sp dp q a f 1000 r (bytesOf d)) (sgL sp dp q a f 1000 r (bytesOf d)).length = ws (sgL sp dp q a f 1000 0 (bytesOf d)) (sgL sp dp q a f 1000 0 (bytesOf d)).length + r := by
    have e : ∀ c, sgL sp dp q a f 1000 c (bytesOf d) = (beL sp 2 ++ (beL dp 2 ++ (beL q 4 ++ (beL a 4 ++ ([80] ++ (beL f 1 ++ beL 1000 2)))))) ++ (beL c 2 ++ ([0, 0] ++ bytesOf d)) := fun c => by unfold sgL; simp only [List.append_assoc]
    rw [e r, e 0]
    exact ws_set_word _ _ r (by simp only [List.length_append, beL_length, List.length_cons, List.length_nil]) (by omega)
  have hw0 := ws_0 (sgL_bytes sp dp q a f 1000 0 _ (bytesOf_bytes d)) (sgL sp dp q a f 1000 0 (bytesOf d)).length
  have A10 := ws_ends 10 20 6 ((20 + d.size : Nat) : Int) (by omega) (by omega) (by omega) (by omega)
  have A11 := ws_ends 10 21 6 ((20 + d.size : Nat) : Int) (by omega) (by omega) (by omega) (by omega)
  rw [← hz, ws_ahead, hz, A10] at hr
  have tot10 : fold (ws (ahead 10 20 6 ((sgL sp dp q a f 1000 r (bytesOf d)).length : Nat) ++ sgL sp dp q a f 1000 r (bytesOf d)) (12 + (sgL sp dp q a f 1000 r (bytesOf d)).length)) = 65535 := by
    rw [ws_ahead, hll, A10, ← hll, wsE, ← Int.add_assoc]
    have hw0' := ws_0 (sgL_bytes sp dp q a f 1000 0 _ (bytesOf_bytes d)) (20 + d.size)
    rw [hz, hll]
    exact fold_whole _ r (by omega) hr
  have tot11 : fold (ws (ahead 10 21 6 ((sgL sp dp q a f 1000 r (bytesOf d)).length : Nat) ++ sgL sp dp q a f 1000 r (bytesOf d)) (12 + (sgL sp dp q a f 1000 r (bytesOf d)).length)) ≠ 65535 := by
    have t := tot10
    rw [ws_ahead, hll, A10] at t
    rw [ws_ahead, hll, A11]
    have hw := ws_0 hLB (20 + d.size)
    have := fold_next (10 + 20 + 6 + ((20 + d.size : Nat) : Int) + ws (sgL sp dp q a f 1000 r (bytesOf d)) (20 + d.size)) (by omega) t
    rw [show 10 + 20 + 6 + ((20 + d.size : Nat) : Int) + ws (sgL sp dp q a f 1000 r (bytesOf d)) (20 + d.size) + 1 = 10 + 21 + 6 + ((20 + d.size : Nat) : Int) + ws (sgL sp dp q a f 1000 r (bytesOf d)) (20 + d.size) by omega] at this
    exact this
  have good := Read_ev 10 20 _ _ (by omega) (by omega) (by omega) (read_good 10 20 sp dp q a f 1000 r d h1 h2 (by omega) (by omega) h5 (by omega) (by omega) tot10)
  obtain ⟨c1, hc1, bad1, hc1'⟩ := read_bad 10 21 _ hLB (by omega) tot11
  have h80 : rd (sgL sp dp q a f 1000 r (bytesOf d)) (12 : Int) = 80 := by
    unfold sgL
    obtain ⟨a1, a2, g1⟩ := beL_two sp
    obtain ⟨b1, b2, g2⟩ := beL_two dp
    obtain ⟨c1, c2, c3, c4, g3⟩ := beL_four q
    obtain ⟨d1, d2, d3, d4, g4⟩ := beL_four a
    rw [g1, g2, g3, g4]
    simp [rd]
  have hc8 := hc1' h80
  subst hc8
  have far := Read_ev 10 21 _ _ (by omega) (by omega) (by omega) bad1
  -- a bit turned
  obtain ⟨i, hi, hi2⟩ := at_ev hB1 (by omega) 0 (sgL sp dp q a f 1000 r (bytesOf d)).length (by omega) (by omega)
  obtain ⟨s, hs, hs2⟩ := at_ev hB1 (by omega) 1 8 (by omega) (by omega)
  have hi' : laws_at.f l1 0 ((sgL sp dp q a f 1000 r (bytesOf d)).length : Int) = some (i : Int) := hi
  have hs' : laws_at.f l1 1 8 = some (s : Int) := hs
  have hb := rd_byte hLB i
  obtain ⟨v, p, hv, hvp, hp1, hp2, hv0, hv1, hsw⟩ := flip_byte (rd (sgL sp dp q a f 1000 r (bytesOf d)) (i : Int)) (s : Int) hb (by omega)
  have hBs : Bytes ((sgL sp dp q a f 1000 r (bytesOf d)).set i v) := set_bytes hLB i v ⟨hv0, hv1⟩
  have hls : ((sgL sp dp q a f 1000 r (bytesOf d)).set i v).length = (sgL sp dp q a f 1000 r (bytesOf d)).length := List.length_set
  have turned : fold (ws (ahead 10 20 6 (((sgL sp dp q a f 1000 r (bytesOf d)).set i v).length : Nat) ++ (sgL sp dp q a f 1000 r (bytesOf d)).set i v) (12 + ((sgL sp dp q a f 1000 r (bytesOf d)).set i v).length)) ≠ 65535 := by
    rw [hls]
    have hBA : Bytes (ahead 10 20 6 ((sgL sp dp q a f 1000 r (bytesOf d)).length : Nat) ++ sgL sp dp q a f 1000 r (bytesOf d)) := bytes_append (ahead_bytes _ _ _ _) hLB
    have hlA : (ahead 10 20 6 ((sgL sp dp q a f 1000 r (bytesOf d)).length : Nat) ++ sgL sp dp q a f 1000 r (bytesOf d)).length = 12 + (sgL sp dp q a f 1000 r (bytesOf d)).length := by rw [List.length_append, ahead_length]
    have hst : (ahead 10 20 6 ((sgL sp dp q a f 1000 r (bytesOf d)).length : Nat) ++ sgL sp dp q a f 1000 r (bytesOf d)).set (12 + i) v = ahead 10 20 6 ((sgL sp dp q a f 1000 r (bytesOf d)).length : Nat) ++ (sgL sp dp q a f 1000 r (bytesOf d)).set i v := by
      rw [List.set_append_right _ _ (by rw [ahead_length]; omega), ahead_length, show 12 + i - 12 = i by omega]
    have hrd : rd (ahead 10 20 6 ((sgL sp dp q a f 1000 r (bytesOf d)).length : Nat) ++ sgL sp dp q a f 1000 r (bytesOf d)) ((12 + i : Nat) : Int) = rd (sgL sp dp q a f 1000 r (bytesOf d)) (i : Int) := by
      have := rd_right (ahead 10 20 6 ((sgL sp dp q a f 1000 r (bytesOf d)).length : Nat)) (sgL sp dp q a f 1000 r (bytesOf d)) i
      rw [ahead_length] at this; exact this
    have hw1 := ws_0 hBA (12 + (sgL sp dp q a f 1000 r (bytesOf d)).length)
    have hw2 := ws_0 (set_bytes hBA (12 + i) v ⟨hv0, hv1⟩) (12 + (sgL sp dp q a f 1000 r (bytesOf d)).length)
    have := flip_sum _ (12 + i) v p (by rw [hlA]; omega) (by rw [hrd]; exact hvp) ⟨hp1, hp2⟩ (by rw [hlA]; exact tot10) (by rw [hlA]; exact hw1.1) (by rw [hlA]; exact hw2.1)
    rw [hlA, hst] at this
    exact this
  obtain ⟨c2, hc2, bad2, _⟩ := read_bad 10 20 _ hBs (by rw [hls]; omega) turned
  have flip := Read_ev 10 20 _ _ (by omega) (by omega) (by rw [hls]; omega) bad2
  -- datagrams
  obtain ⟨sp2, dp2, d2, hdg, k1, k2, k3⟩ := datagramOf hB1 (by omega)
  obtain ⟨r2, s2, hr2, hs2v, hr2e, sD, iD⟩ := datagram 10 20 sp2 dp2 d2 (by omega)
  have hbl2 : (bytesOf d2).length = d2.size := bytesOf_len d2
  have hs2r : 1 ≤ s2 ∧ s2 < 65536 := by rw [hs2v]; split <;> omega
  have hDB : Bytes (dgL sp2 dp2 ((8 + d2.size : Nat) : Int) s2 (bytesOf d2)) := dgL_bytes _ _ _ _ _ (bytesOf_bytes d2)
  have hdl : ∀ c, (dgL sp2 dp2 ((8 + d2.size : Nat) : Int) c (bytesOf d2)).length = 8 + d2.size := fun c => by rw [dgL_length, hbl2]
  obtain ⟨sD2, iD2⟩ := Datagram_ev 10 20 sp2 dp2 d2 (by omega) (by omega) k1 k2 (by omega) _ hDB (by rw [hdl]; omega) sD iD
  have wsD : ws (dgL sp2 dp2 ((8 + d2.size : Nat) : Int) s2 (bytesOf d2)) (8 + d2.size) = ws (dgL sp2 dp2 ((8 + d2.size : Nat) : Int) 0 (bytesOf d2)) (8 + d2.size) + s2 := by
    have e : ∀ c, dgL sp2 dp2 ((8 + d2.size : Nat) : Int) c (bytesOf d2) = (beL sp2 2 ++ (beL dp2 2 ++ beL ((8 + d2.size : Nat) : Int) 2)) ++ (beL c 2 ++ bytesOf d2) := fun c => by unfold dgL; simp only [List.append_assoc]
    have w := ws_set_word (beL sp2 2 ++ (beL dp2 2 ++ beL ((8 + d2.size : Nat) : Int) 2)) (bytesOf d2) s2 (by simp only [List.length_append, beL_length]) (by omega)
    rw [← e, ← e, hdl, hdl] at w
    exact w
  have hwD := ws_0 (dgL_bytes sp2 dp2 ((8 + d2.size : Nat) : Int) 0 _ (bytesOf_bytes d2)) (8 + d2.size)
  have B10 := ws_ends 10 20 17 ((8 + d2.size : Nat) : Int) (by omega) (by omega) (by omega) (by omega)
  have B11 := ws_ends 11 20 17 ((8 + d2.size : Nat) : Int) (by omega) (by omega) (by omega) (by omega)
  have wa := ws_ahead 10 20 17 (dgL sp2 dp2 ((8 + d2.size : Nat) : Int) 0 (bytesOf d2)) ((8 + d2.size : Nat) : Int)
  rw [hdl, B10] at wa
  rw [wa] at hr2e
  have fD : fold (10 + 20 + 17 + ((8 + d2.size : Nat) : Int) + ws (dgL sp2 dp2 ((8 + d2.size : Nat) : Int) 0 (bytesOf d2)) (8 + d2.size) + s2) = 65535 := by
    rw [hs2v]
    split
    · rename_i hz2; exact fold_whole' _ r2 (by omega) hr2e hz2
    · exact fold_whole _ r2 (by omega) hr2e
  have t10 : 65535 - fold (ws (ahead 10 20 17 ((dgL sp2 dp2 ((8 + d2.size : Nat) : Int) s2 (bytesOf d2)).length : Nat) ++ dgL sp2 dp2 ((8 + d2.size : Nat) : Int) s2 (bytesOf d2)) (12 + (dgL sp2 dp2 ((8 + d2.size : Nat) : Int) s2 (bytesOf d2)).length)) = 0 := by
    rw [ws_ahead, hdl, B10, wsD, ← Int.add_assoc, fD]; rfl
  have goodD := ReadD_ev 10 20 _ _ (by omega) (by omega) (by rw [hdl]; omega) (readD_good 10 20 sp2 dp2 s2 d2 k1 k2 hs2r (by omega) 0 t10)
  rw [if_pos rfl] at goodD
  obtain ⟨c3, hc3⟩ : ∃ c3, 65535 - fold (ws (ahead 11 20 17 ((dgL sp2 dp2 ((8 + d2.size : Nat) : Int) s2 (bytesOf d2)).length : Nat) ++ dgL sp2 dp2 ((8 + d2.size : Nat) : Int) s2 (bytesOf d2)) (12 + (dgL sp2 dp2 ((8 + d2.size : Nat) : Int) s2 (bytesOf d2)).length)) = c3 := ⟨_, rfl⟩
  have hc3' : c3 ≠ 0 := by
    have e := hc3
    rw [ws_ahead, hdl, B11, wsD] at e
    have := fold_next (10 + 20 + 17 + ((8 + d2.size : Nat) : Int) + ws (dgL sp2 dp2 ((8 + d2.size : Nat) : Int) 0 (bytesOf d2)) (8 + d2.size) + s2) (by omega) fD
    rw [show 10 + 20 + 17 + ((8 + d2.size : Nat) : Int) + ws (dgL sp2 dp2 ((8 + d2.size : Nat) : Int) 0 (bytesOf d2)) (8 + d2.size) + s2 + 1 = 11 + 20 + 17 + ((8 + d2.size : Nat) : Int) + (ws (dgL sp2 dp2 ((8 + d2.size : Nat) : Int) 0 (bytesOf d2)) (8 + d2.size) + s2) by omega] at this
    omega
  have farD := ReadD_ev 11 20 _ _ (by omega) (by omega) (by rw [hdl]; omega) (readD_good 11 20 sp2 dp2 s2 d2 k1 k2 hs2r (by omega) c3 hc3)
  rw [if_neg hc3'] at farD
  obtain ⟨ft, fu, hft, htu, hfu⟩ := flags_ev f h5
  -- all in a row
  refine Ev.step (fun k => by simp only [laws_FnSegments.j0]; rw [if_neg (by decide), hseg, Option.bind_some]) ?_
  refine Ev.bind iE2 (Ev.bind sE2 ?_)
  refine Ev.step (fun k => by simp only [laws_FnSegments.j1]; rfl) ?_
  refine Ev.bind good ?_
  simp only [if_true]
  simp only [beq_self_eq_true, Bool.not_true, Bool.or_self]
  refine Ev.step (fun k => by simp only [laws_FnSegments.j2]; rw [if_neg (by decide), Option.bind_some, if_pos (by simp only [List.length_nil]; omega), Option.bind_some, List.nil_append, hi', Option.bind_some, if_pos (by omega), if_pos (by omega), hs', Option.bind_some, if_pos hsw, hv, Int.toNat_natCast]) ?_
  refine Ev.bind flip (Ev.bind far ?_)
  refine Ev.step (fun k => by simp only [laws_FnSegments.j3]; rw [hdg, Option.bind_some]) ?_
  refine Ev.bind iD2 (Ev.bind sD2 ?_)
  refine Ev.step (fun k => by simp only [laws_FnSegments.j4]; rfl) ?_
  refine Ev.bind goodD (Ev.bind farD ?_)
  refine Ev.step (fun k => by simp only [laws_FnSegments.j5]; rw [hft, Option.bind_some]) ?_
  refine Ev.bind hfu ?_
  refine Ev.step (f := fun _ => some true) (fun k => ?_) (Ev.now _)
  simp only [laws_FnSegments.j6]
  rw [if_neg (by omega)]
  simp [htu]

end Go.Proofs.Ythfhflgiblmooaa.Pure
