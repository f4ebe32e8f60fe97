/- NetText: an address, a stroke, a number of bits: the reference writes them by its own digits, the program by the library's. -/
import Derived.Test.YtpnbhgoblgbdkaaDoorPDtx2
import Derived.Test.YtpnbhgoblgbdkaaDoorBase
import Derived.Lib.ItoaLen
import Derived.Lib.Join
import Derived.Laws.BitsLemmas
set_option linter.unusedSimpArgs false
set_option linter.unusedVariables false
namespace Go.Proofs.YtpnbhgoblgbdkaaDoor.Pure
open Go.RowKit Go.Proofs.YtpnbhgoblgbdkaaDoor.PDt Go.Proofs.YtpnbhgoblgbdkaaDoorW.PrintWords Go.Proofs.YtpnbhgoblgbdkaaDoorW.PrintLast Go.Proofs.YtpnbhgoblgbdkaaDoorW.PrintMore Base

/-! ### rows of bytes and the strings of them -/
def Bytes (l : List Int) : Prop := ∀ x ∈ l, 0 ≤ x ∧ x < 256
theorem bytes_wf {l : List Int} (h : ∀ x ∈ l, (Lit.int .u8 x).wf = true) : Bytes l := fun x hx => wf_u8 (h x hx)
theorem bytes_take {l : List Int} (h : Bytes l) (n : Nat) : Bytes (l.take n) := fun x hx => h x (List.mem_of_mem_take hx)
theorem bytes_drop {l : List Int} (h : Bytes l) (n : Nat) : Bytes (l.drop n) := fun x hx => h x (List.mem_of_mem_drop hx)
theorem rd_nat (l : List Int) (i : Nat) : rd l (i : Int) = l.getD i 0 := by simp [rd]
theorem rd_at (l : List Int) (i : Nat) (h : i < l.length) : rd l (i : Int) = l[i] := by
  rw [rd_nat, List.getD_eq_getElem?_getD, List.getElem?_eq_getElem h]; rfl
theorem rd_byte {l : List Int} (h : Bytes l) (i : Nat) : 0 ≤ rd l (i : Int) ∧ rd l (i : Int) < 256 := by
  by_cases hi : i < l.length
  · rw [rd_at l i hi]; exact h _ (List.getElem_mem hi)
  · rw [rd_nat, List.getD_eq_getElem?_getD, List.getElem?_eq_none (by omega)]; simp
theorem str_bt {l : List Int} (h : Bytes l) (i : Nat) : bt (strOfNums l) (i : Int) = rd l (i : Int) := by
  rw [bt_nat, strOfNums_data, rd_nat, List.getD_eq_getElem?_getD, List.getD_eq_getElem?_getD, List.getElem?_map]
  by_cases hi : i < l.length
  · rw [List.getElem?_eq_getElem hi]
    simp only [Option.map_some, Option.getD_some]
    have := h _ (List.getElem_mem hi)
    rw [UInt8.toNat_ofNat']; omega
  · rw [List.getElem?_eq_none (by omega)]; rfl
theorem str_cut (l : List Int) (a b : Nat) : (strOfNums l).extract a b = strOfNums ((l.take b).drop a) := by
  apply toList_inj
  rw [toList_data, toList_data, strOfNums_data, ByteArray.data_extract, Array.toList_extract, List.extract_eq_take_drop, strOfNums_data, List.map_drop, List.map_take, List.drop_take]
theorem str_size (l : List Int) : (strOfNums l).size = l.length := strOfNums_size l

/-! ### the number of a row of bytes, high byte first -/
def num (l : List Int) : Int := l.foldl (fun n c => n * 256 + c) 0
theorem num_snoc (l : List Int) (c : Int) : num (l ++ [c]) = num l * 256 + c := by simp [num]
theorem num_take (l : List Int) (i : Nat) (h : i < l.length) : num (l.take (i + 1)) = num (l.take i) * 256 + l[i] := by
  rw [List.take_succ_eq_append_getElem h, num_snoc]
theorem num_0 {l : List Int} (h : Bytes l) : ∀ i, i ≤ l.length → 0 ≤ num (l.take i) ∧ num (l.take i) < 256 ^ i := by
  intro i
  induction i with
  | zero => intro _; rw [List.take_zero]; exact ⟨by decide, by decide⟩
  | succ i ih =>
    intro hi
    have h1 := ih (by omega)
    have h2 := h _ (List.getElem_mem (show i < l.length by omega))
    rw [num_take l i (by omega), Int.pow_succ]
    omega
theorem num_6 {l : List Int} (h : Bytes l) (i : Nat) (hi : i ≤ l.length) (h7 : i ≤ 6) : 0 ≤ num (l.take i) ∧ num (l.take i) < 281474976710656 := by
  have h1 := num_0 h i hi
  rcases (show i = 0 ∨ i = 1 ∨ i = 2 ∨ i = 3 ∨ i = 4 ∨ i = 5 ∨ i = 6 by omega) with e | e | e | e | e | e | e <;> rw [e] at h1 ⊢ <;> omega
theorem num_lt {l : List Int} (h : Bytes l) (n : Nat) (hn : l.length = n) : 0 ≤ num l ∧ num l < 256 ^ n := by
  have := num_0 h l.length (Nat.le_refl _)
  rw [List.take_length] at this; rw [hn] at this; exact this

/-! ### the text of an address -/
theorem and255 (a : Int) (h0 : 0 ≤ a) (h1 : a < 4294967296) : Go.bits .and .i64 a 255 = a % 256 := by
  obtain ⟨n, rfl⟩ := Int.eq_ofNat_of_zero_le h0
  have h := (bits_nat .i64 32 (by decide) (fun x hx hy => by rw [IntKind.wrap_i64]; omega) n 255 (by omega) (by omega)).1
  rw [show ((255 : Nat) : Int) = 255 from rfl] at h
  rw [h, show n &&& 255 = n % 256 from Nat.and_two_pow_sub_one_eq_mod n 8]
  omega
def decS (n : Nat) : ByteArray := ⟨(Lib.decDigits n).toArray⟩
theorem decS_size (n : Nat) (h : n < 18446744073709551616) : (decS n).size ≤ 20 := by
  rw [← data_length]
  show (Lib.decDigits n).toArray.toList.length ≤ 20
  rw [List.toList_toArray, Lib.decDigits_length]
  exact Lib.nDigits_le20 n h
theorem digits_ev (m : Nat) : ∀ n : Nat, n < m → n < 4294967296 → Ev (fun k => spec_l00Digits.f k (n : Int)) (decS n) := by
  induction m with
  | zero => intro n h _; omega
  | succ m ih =>
    intro n hn hb
    by_cases h : n < 10
    · refine Ev.step (f := fun _ => some (decS n)) (fun k => ?_) (Ev.now _)
      have e : strOfNums [(wrap64 (48 + (n : Int))) % 256] = decS n := by
        apply toList_inj
        rw [toList_data, toList_data, strOfNums_data]
        unfold decS
        rw [Lib.decDigits_one h, wrap64_id (by omega) (by omega)]
        simp only [List.map_cons, List.map_nil]
        rw [show ((48 + (n : Int)) % 256).toNat = 48 + n by omega]
      simp only [spec_l00Digits.f]
      rw [if_neg (by omega), if_neg (by omega), if_pos (by omega), e]
    · have hd : wrap64 (Int.tdiv (n : Int) 10) = ((n / 10 : Nat) : Int) := by
        rw [Int.tdiv_eq_ediv_of_nonneg (by omega), wrap64_id (by omega) (by omega)]; omega
      have hm : wrap64 (48 + Int.tmod (n : Int) 10) = ((48 + n % 10 : Nat) : Int) := by
        rw [Int.tmod_eq_emod_of_nonneg (by omega), wrap64_id (by omega) (by omega)]; omega
      have hs := decS_size (n / 10) (by omega)
      have e : decS (n / 10) ++ strOfNums [((48 + n % 10 : Nat) : Int) % 256] = decS n := by
        apply toList_inj
        rw [toList_data, toList_data, ByteArray.data_append, Array.toList_append, strOfNums_data]
        unfold decS
        conv => rhs; rw [Lib.decDigits, dif_neg h]
        simp only [List.map_cons, List.map_nil, List.toList_toArray]
        rw [show (((48 + n % 10 : Nat) : Int) % 256).toNat = 48 + n % 10 by omega]
      refine Ev.step (f := fun k => (spec_l00Digits.f k ((n / 10 : Nat) : Int)).bind fun t106 => ((some (([((48 + n % 10 : Nat) : Int) % 256] : List Int) : List Int)).bind fun y107 => (if t106.size + (strOfNums y107).size ≤ 9223372036854775807 then (some (t106 ++ (strOfNums y107))) else (none)))) (fun k => ?_) (Ev.bind (ih (n / 10) (by omega) (by omega)) (Ev.congr (f := fun _ => some (decS n)) (fun k => ?_) (Ev.now _)))
      · simp only [spec_l00Digits.f, hd, hm]
        rw [if_neg (by omega), if_neg (by omega), if_neg (by omega)]
      · rw [Option.bind_some, if_pos (by rw [str_size]; simp; omega), e]
theorem digits_at (n : Nat) (h : n < 4294967296) : Ev (fun k => spec_l00Digits.f k (n : Int)) (decS n) := digits_ev (n + 1) n (by omega) h
theorem itoa_at (n : Nat) (h : n < 4294967296) : strconv_Itoa_71.f (n : Int) = some (decS n) := by
  unfold strconv_Itoa_71.f
  rw [if_pos (by omega), if_pos (by omega)]
  unfold Lib.itoa decS
  rw [if_neg (by omega), Int.toNat_natCast]
def addrS (n : Nat) : ByteArray := (((((decS (n / 16777216) ++ (⟨#[46]⟩ : ByteArray)) ++ decS (n / 65536 % 256)) ++ (⟨#[46]⟩ : ByteArray)) ++ decS (n / 256 % 256)) ++ (⟨#[46]⟩ : ByteArray)) ++ decS (n % 256)
theorem addrS_size (n : Nat) (h : n < 4294967296) : (addrS n).size ≤ 100 := by
  have s1 := decS_size (n / 16777216) (by omega)
  have s2 := decS_size (n / 65536 % 256) (by omega)
  have s3 := decS_size (n / 256 % 256) (by omega)
  have s4 := decS_size (n % 256) (by omega)
  have e1 : (⟨#[46]⟩ : ByteArray).size = 1 := rfl
  unfold addrS
  simp only [ByteArray.size_append, e1]; omega
theorem spec_addr_ev (n : Nat) (h : n < 4294967296) : Ev (fun k => spec_l01Address.f k (n : Int)) (addrS n) := by
  have s1 := decS_size (n / 16777216) (by omega)
  have s2 := decS_size (n / 65536 % 256) (by omega)
  have s3 := decS_size (n / 256 % 256) (by omega)
  have s4 := decS_size (n % 256) (by omega)
  have e1 : (⟨#[46]⟩ : ByteArray).size = 1 := rfl
  have a1 : (n : Int) / 16777216 = ((n / 16777216 : Nat) : Int) := by omega
  have a2 : Go.bits .and .i64 ((n : Int) / 65536) 255 = ((n / 65536 % 256 : Nat) : Int) := by rw [and255 _ (by omega) (by omega)]; omega
  have a3 : Go.bits .and .i64 ((n : Int) / 256) 255 = ((n / 256 % 256 : Nat) : Int) := by rw [and255 _ (by omega) (by omega)]; omega
  have a4 : Go.bits .and .i64 (n : Int) 255 = ((n % 256 : Nat) : Int) := by rw [and255 _ (by omega) (by omega)]; omega
  refine Ev.congr (fun k => by unfold spec_l01Address.f; rw [a1, a2, a3, a4]) ?_
  refine Ev.bind (digits_at _ (by omega)) (Ev.congr (fun k => by rw [if_pos (by omega)]) ?_)
  refine Ev.bind (digits_at _ (by omega)) (Ev.congr (fun k => by rw [if_pos (by simp only [ByteArray.size_append, e1]; omega), if_pos (by simp only [ByteArray.size_append, e1]; omega)]) ?_)
  refine Ev.bind (digits_at _ (by omega)) (Ev.congr (fun k => by rw [if_pos (by simp only [ByteArray.size_append, e1]; omega), if_pos (by simp only [ByteArray.size_append, e1]; omega)]) ?_)
  refine Ev.bind (digits_at _ (by omega)) (Ev.congr (f := fun _ => some (addrS n)) (fun k => by rw [if_pos (by simp only [ByteArray.size_append, e1]; omega)]; rfl) (Ev.now _))
theorem join_four (a b c d : ByteArray) : (⟨(Lib.join ([a, b, c, d].map (·.data.toList)) (⟨#[46]⟩ : ByteArray).data.toList).toArray⟩ : ByteArray) = (((((a ++ (⟨#[46]⟩ : ByteArray)) ++ b) ++ (⟨#[46]⟩ : ByteArray)) ++ c) ++ (⟨#[46]⟩ : ByteArray)) ++ d := by
  apply toList_inj
  rw [toList_data, toList_data]
  simp [Lib.join, ByteArray.data_append]
theorem impl_addr_ev (n : Nat) (h : n < 4294967296) : Ev (fun k => impl_addressText.f k (n : Int)) (addrS n) := by
  have s1 := decS_size (n / 16777216) (by omega)
  have s2 := decS_size (n / 65536 % 256) (by omega)
  have s3 := decS_size (n / 256 % 256) (by omega)
  have s4 := decS_size (n % 256) (by omega)
  have b1 : Go.bits .and .i64 (shr .i64 (n : Int) 24) 255 = ((n / 16777216 : Nat) : Int) := by
    rw [show shr .i64 (n : Int) 24 = (n : Int) / 16777216 from rfl, and255 _ (by omega) (by omega)]; omega
  have b2 : Go.bits .and .i64 (shr .i64 (n : Int) 16) 255 = ((n / 65536 % 256 : Nat) : Int) := by
    rw [show shr .i64 (n : Int) 16 = (n : Int) / 65536 from rfl, and255 _ (by omega) (by omega)]; omega
  have b3 : Go.bits .and .i64 (shr .i64 (n : Int) 8) 255 = ((n / 256 % 256 : Nat) : Int) := by
    rw [show shr .i64 (n : Int) 8 = (n : Int) / 256 from rfl, and255 _ (by omega) (by omega)]; omega
  have b4 : Go.bits .and .i64 (shr .i64 (n : Int) 0) 255 = ((n % 256 : Nat) : Int) := by
    rw [show shr .i64 (n : Int) 0 = (n : Int) / 1 from rfl, Int.ediv_one, and255 _ (by omega) (by omega)]; omega
  have w1 : wrap64 (24 - 8) = 16 := by decide +kernel
  have w2 : wrap64 (16 - 8) = 8 := by decide +kernel
  have w3 : wrap64 (8 - 8) = 0 := by decide +kernel
  have w4 : wrap64 (0 - 8) = -8 := by decide +kernel
  refine Ev.congr (fun k => by unfold impl_addressText.f; rfl) ?_
  refine Ev.step (f := fun k => impl_addressText.l0 k (n : Int) [decS (n / 16777216)] 16) (fun k => ?_) ?_
  · simp only [impl_addressText.l0, b1, w1, itoa_at (n / 16777216) (by omega), Option.bind_some]
    rw [if_pos (by omega), if_pos (by omega), if_pos (by simp)]; rfl
  refine Ev.step (f := fun k => impl_addressText.l0 k (n : Int) [decS (n / 16777216), decS (n / 65536 % 256)] 8) (fun k => ?_) ?_
  · simp only [impl_addressText.l0, b2, w2, itoa_at (n / 65536 % 256) (by omega), Option.bind_some]
    rw [if_pos (by omega), if_pos (by omega), if_pos (by simp)]; rfl
  refine Ev.step (f := fun k => impl_addressText.l0 k (n : Int) [decS (n / 16777216), decS (n / 65536 % 256), decS (n / 256 % 256)] 0) (fun k => ?_) ?_
  · simp only [impl_addressText.l0, b3, w3, itoa_at (n / 256 % 256) (by omega), Option.bind_some]
    rw [if_pos (by omega), if_pos (by omega), if_pos (by simp)]; rfl
  refine Ev.step (f := fun k => impl_addressText.l0 k (n : Int) [decS (n / 16777216), decS (n / 65536 % 256), decS (n / 256 % 256), decS (n % 256)] (-8)) (fun k => ?_) ?_
  · simp only [impl_addressText.l0, b4, w4, itoa_at (n % 256) (by omega), Option.bind_some]
    rw [if_pos (by omega), if_pos (by omega), if_pos (by simp)]; rfl
  refine Ev.step (f := fun _ => some (addrS n)) (fun k => ?_) (Ev.now _)
  have hj := join_four (decS (n / 16777216)) (decS (n / 65536 % 256)) (decS (n / 256 % 256)) (decS (n % 256))
  have hl : (Lib.join ([decS (n / 16777216), decS (n / 65536 % 256), decS (n / 256 % 256), decS (n % 256)].map (·.data.toList)) (⟨#[46]⟩ : ByteArray).data.toList).length ≤ 140737488355328 := by
    have hz := addrS_size n h
    unfold addrS at hz
    rw [← hj, ← data_length] at hz
    rw [List.toList_toArray] at hz
    omega
  simp only [impl_addressText.l0]
  rw [if_neg (by omega)]
  unfold strings_Join.f
  rw [if_neg (by simp), if_pos (by simp), if_pos hl, Option.bind_some, hj]; rfl
/-! ### a right net -/
theorem netok_in (a b c : Int) : spec_l01In.f a b c = some (decide (b ≤ a ∧ a ≤ c)) := by
  unfold spec_l01In.f
  by_cases h : b ≤ a
  · rw [if_pos h]; simp [h]
  · rw [if_neg h]; simp [h]
theorem netok_within (a b c : Int) : impl_within.f a b c = some (decide (b ≤ a ∧ a ≤ c)) := by
  rw [← netok_in]; rfl
theorem netok_eq (a b : Int) : ∃ r, spec_NetOK.f a b = some r ∧ impl_NetOK.f a b = some r := by
  unfold spec_NetOK.f impl_NetOK.f spec_l01Ip.f impl_isAddress.f
  simp only [netok_in, netok_within, Option.bind_some]
  by_cases h1 : 0 ≤ a ∧ a ≤ 4294967295
  · by_cases h2 : 0 ≤ b ∧ b ≤ 32
    · have w1 : wrap64 (32 - b) = 32 - b := wrap64_id (by omega) (by omega)
      have w2 : IntKind.u64.wrap (32 - b) = 32 - b := by rw [wrap_u64]; omega
      simp only [h1, h2, w1, w2, and_self, decide_true, if_true]
      have h3 : 0 ≤ 32 - b := by omega
      exact ⟨_, if_pos h3⟩
    · exact ⟨false, by simp only [h1, h2, and_self, decide_true, decide_false, if_true, Bool.false_eq_true, if_false], by simp only [h1, h2, and_self, decide_true, decide_false, if_true, Bool.false_eq_true, if_false]⟩
  · exact ⟨false, by simp only [h1, decide_false, Bool.false_eq_true, if_false], by simp only [h1, decide_false, Bool.false_eq_true, if_false]⟩
theorem netok_true (a b : Int) (h : spec_NetOK.f a b = some true) : (0 ≤ a ∧ a ≤ 4294967295) ∧ (0 ≤ b ∧ b ≤ 32) := by
  unfold spec_NetOK.f spec_l01Ip.f at h
  simp only [netok_in, Option.bind_some] at h
  by_cases h1 : 0 ≤ a ∧ a ≤ 4294967295
  · by_cases h2 : 0 ≤ b ∧ b ≤ 32
    · exact ⟨h1, h2⟩
    · rw [decide_eq_false h2] at h
      simp at h
  · rw [decide_eq_false h1] at h
    simp at h
-- SAYS: NetText: an address, a stroke, a number of bits: the reference writes them by its own digits, the program by the library's.
-- USES: Bytes AddrText NetOk
-- IMPORTS: Derived.Lib.ItoaLen Derived.Lib.Join Derived.Laws.BitsLemmas
theorem FnExactNetText : laws_FnExactNetText.Pure := by
  intro a b ha hb
  apply Ev.rounds
  have key : ∃ r, Ev (fun k => spec_NetText.f k a b) r ∧ Ev (fun k => impl_NetText.f k a b) r := by
    obtain ⟨r, hS, hI⟩ := netok_eq a b
    cases r with
    | false => exact ⟨(⟨#[]⟩, 1), Ev.congr (f := fun _ => some _) (fun k => by unfold spec_NetText.f; rw [hS, Option.bind_some, if_neg (by simp)]) (Ev.now _), Ev.congr (f := fun _ => some _) (fun k => by unfold impl_NetText.f; rw [hI, Option.bind_some, if_neg (by simp)]) (Ev.now _)⟩
    | true =>
      obtain ⟨⟨h1, h2⟩, h3, h4⟩ := netok_true a b hS
      obtain ⟨n, rfl⟩ : ∃ n : Nat, a = n := ⟨a.toNat, by omega⟩
      obtain ⟨m, rfl⟩ : ∃ m : Nat, b = m := ⟨b.toNat, by omega⟩
      have z1 := addrS_size n (by omega)
      have z2 := decS_size m (by omega)
      have e1 : (⟨#[47]⟩ : ByteArray).size = 1 := rfl
      refine ⟨((addrS n ++ (⟨#[47]⟩ : ByteArray)) ++ decS m, 0), ?_, ?_⟩
      · refine Ev.congr (fun k => by unfold spec_NetText.f; rw [hS, Option.bind_some, if_pos rfl]) (Ev.bind (spec_addr_ev n (by omega)) (Ev.congr (fun k => by rw [if_pos (by omega)]) (Ev.bind (digits_at m (by omega)) ?_)))
        exact Ev.congr (f := fun _ => some _) (fun k => by rw [if_pos (by simp only [ByteArray.size_append, e1]; omega)]) (Ev.now _)
      · refine Ev.congr (fun k => by unfold impl_NetText.f impl_netText.f; rw [hI, Option.bind_some, if_pos rfl]) (Ev.bind (Ev.bind (impl_addr_ev n (by omega)) (Ev.congr (f := fun _ => some ((addrS n ++ (⟨#[47]⟩ : ByteArray)) ++ decS m)) (fun k => ?_) (Ev.now _))) (Ev.now _))
        rw [itoa_at m (by omega)]
        have e2 : (addrS n ++ (⟨#[47]⟩ : ByteArray)).size = (addrS n).size + 1 := by rw [ByteArray.size_append, e1]
        simp only [Option.bind_some, e2]
        repeat (first | rw [if_pos (by omega)] | rfl)
  obtain ⟨⟨r1, r2⟩, hS, hI⟩ := key
  refine Ev.congr (f := fun k => (spec_NetText.f k a b).bind fun bt145 => ((impl_NetText.f k a b).bind fun bt149 => (if bt149.1.toList = bt145.1.toList then (if bt149.2 = bt145.2 then (some true) else (some false)) else (some false)))) (fun k => by unfold laws_FnExactNetText.f laws_toNet.f; rfl) ?_
  refine Ev.bind hS (Ev.bind hI ?_)
  simp only [if_true]
  exact Ev.now _

end Go.Proofs.YtpnbhgoblgbdkaaDoor.Pure
