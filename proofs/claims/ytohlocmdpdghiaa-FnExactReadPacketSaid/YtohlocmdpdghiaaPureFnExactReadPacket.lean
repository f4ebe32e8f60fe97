/- ReadPacket: both ask the same of a row, in the same order, and cut it at the same places. -/
import Derived.Test.YtohlocmdpdghiaaPRpx4
import Derived.Test.YtohlocmdpdghiaaBase
set_option linter.unusedSimpArgs false
set_option linter.unusedVariables false
namespace Go.Proofs.Ytohlocmdpdghiaa.Pure
open Go.RowKit Go.Proofs.Ytohlocmdpdghiaa.PRp Go.Proofs.YtohlocmdpdghiaaW.PrintWords Go.Proofs.YtohlocmdpdghiaaW.PrintLast Go.Proofs.YtohlocmdpdghiaaW.PrintMore Base

/-! ### rows of bytes and the strings of them -/
def Bytes (l : List Int) : Prop := ∀ x ∈ l, 0 ≤ x ∧ x < 256
theorem bytes_wf {l : List Int} (h : ∀ x ∈ l, (Lit.int .u8 x).wf = true) : Bytes l := fun x hx => wf_u8 (h x hx)
theorem bytes_take {l : List Int} (h : Bytes l) (n : Nat) : Bytes (l.take n) := fun x hx => h x (List.mem_of_mem_take hx)
theorem bytes_drop {l : List Int} (h : Bytes l) (n : Nat) : Bytes (l.drop n) := fun x hx => h x (List.mem_of_mem_drop hx)
theorem rd_nat (l : List Int) (i : Nat) : rd l (i : Int) = l.getD i 0 := by simp [rd]
theorem rd_at (l : List Int) (i : Nat) (h : i < l.length) : rd l (i : Int) = l[i] := by
  rw [rd_nat, List.getD_eq_getElem?_getD, List.getElem?_eq_getElem h]; rfl
theorem rd_byte {l : List Int} (h : Bytes l) (i : Nat) : 0 ≤ rd l (i : Int) ∧ rd l (i : Int) < 256 := by
  by_cases hi : i < l.length
  · rw [rd_at l i hi]; exact h _ (List.getElem_mem hi)
  · rw [rd_nat, List.getD_eq_getElem?_getD, List.getElem?_eq_none (by omega)]; simp
theorem str_bt {l : List Int} (h : Bytes l) (i : Nat) : bt (strOfNums l) (i : Int) = rd l (i : Int) := by
  rw [bt_nat, strOfNums_data, rd_nat, List.getD_eq_getElem?_getD, List.getD_eq_getElem?_getD, List.getElem?_map]
  by_cases hi : i < l.length
  · rw [List.getElem?_eq_getElem hi]
    simp only [Option.map_some, Option.getD_some]
    have := h _ (List.getElem_mem hi)
    rw [UInt8.toNat_ofNat']; omega
  · rw [List.getElem?_eq_none (by omega)]; rfl
theorem str_cut (l : List Int) (a b : Nat) : (strOfNums l).extract a b = strOfNums ((l.take b).drop a) := by
  apply toList_inj
  rw [toList_data, toList_data, strOfNums_data, ByteArray.data_extract, Array.toList_extract, List.extract_eq_take_drop, strOfNums_data, List.map_drop, List.map_take, List.drop_take]
theorem str_size (l : List Int) : (strOfNums l).size = l.length := strOfNums_size l

/-! ### the number of a row of bytes, high byte first -/
def num (l : List Int) : Int := l.foldl (fun n c => n * 256 + c) 0
theorem num_snoc (l : List Int) (c : Int) : num (l ++ [c]) = num l * 256 + c := by simp [num]
theorem num_take (l : List Int) (i : Nat) (h : i < l.length) : num (l.take (i + 1)) = num (l.take i) * 256 + l[i] := by
  rw [List.take_succ_eq_append_getElem h, num_snoc]
theorem num_0 {l : List Int} (h : Bytes l) : ∀ i, i ≤ l.length → 0 ≤ num (l.take i) ∧ num (l.take i) < 256 ^ i := by
  intro i
  induction i with
  | zero => intro _; rw [List.take_zero]; exact ⟨by decide, by decide⟩
  | succ i ih =>
    intro hi
    have h1 := ih (by omega)
    have h2 := h _ (List.getElem_mem (show i < l.length by omega))
    rw [num_take l i (by omega), Int.pow_succ]
    omega
theorem num_6 {l : List Int} (h : Bytes l) (i : Nat) (hi : i ≤ l.length) (h7 : i ≤ 6) : 0 ≤ num (l.take i) ∧ num (l.take i) < 281474976710656 := by
  have h1 := num_0 h i hi
  rcases (show i = 0 ∨ i = 1 ∨ i = 2 ∨ i = 3 ∨ i = 4 ∨ i = 5 ∨ i = 6 by omega) with e | e | e | e | e | e | e <;> rw [e] at h1 ⊢ <;> omega
theorem num_lt {l : List Int} (h : Bytes l) (n : Nat) (hn : l.length = n) : 0 ≤ num l ∧ num l < 256 ^ n := by
  have := num_0 h l.length (Nat.le_refl _)
  rw [List.take_length] at this; rw [hn] at this; exact this

/-! ### a row copied, two rows compared -/
theorem toByteS_l0 (l : List Int) (hl : l.length ≤ 1048576) (d : Nat) : ∀ (i : Nat) (x : List Int), i + d = l.length → x.length = l.length → (∀ j, j < i → x[j]? = l[j]?) → Ev (fun k => laws_toByteS.l0 k l x (i : Int)) l := by
  induction d with
  | zero =>
    intro i x hi hx hj
    have hxl : x = l := by
      apply List.ext_getElem?
      intro j
      by_cases h : j < i
      · exact hj j h
      · rw [List.getElem?_eq_none (by omega), List.getElem?_eq_none (by omega)]
    subst hxl
    refine Ev.step (f := fun _ => some x) (fun k => ?_) (Ev.now _)
    simp only [laws_toByteS.l0]; rw [if_neg (by omega)]
  | succ d ih =>
    intro i x hi hx hj
    have hw : wrap64 ((i : Int) + 1) = ((i + 1 : Nat) : Int) := by rw [wrap64_id (by omega) (by omega)]; omega
    refine Ev.step (f := fun k => laws_toByteS.l0 k l (x.set i (rd l i)) ((i + 1 : Nat) : Int)) (fun k => ?_) (ih (i + 1) _ (by omega) (by simpa using hx) ?_)
    · simp only [laws_toByteS.l0, hw]; rw [if_pos (by omega), if_pos (by omega), if_pos (by omega)]; rfl
    · intro j hji
      by_cases h : j = i
      · subst h
        rw [List.getElem?_set_self (by omega), rd_nat, List.getD_eq_getElem?_getD, List.getElem?_eq_getElem (by omega)]; rfl
      · rw [List.getElem?_set_ne (by omega)]; exact hj j (by omega)
theorem toByteS_ev (l : List Int) (hl : l.length ≤ 1048576) : Ev (fun k => laws_toByteS.f k l) l := by
  refine Ev.congr (f := fun k => laws_toByteS.l0 k l (List.replicate l.length 0) ((0 : Nat) : Int)) (fun k => ?_) (toByteS_l0 l hl l.length 0 _ (by omega) (by simp) (fun j hj => by omega))
  unfold laws_toByteS.f
  rw [if_pos (by omega), if_pos (by omega)]; rfl
theorem eqByteS_l0 (l : List Int) (hl : l.length ≤ 1048576) (d : Nat) : ∀ (i : Nat), i + d = l.length → Ev (fun k => laws_eqByteS.l0 k l l (i : Int)) true := by
  induction d with
  | zero =>
    intro i hi
    refine Ev.step (f := fun _ => some true) (fun k => ?_) (Ev.now _)
    simp only [laws_eqByteS.l0]; rw [if_neg (by omega)]
  | succ d ih =>
    intro i hi
    have hw : wrap64 ((i : Int) + 1) = ((i + 1 : Nat) : Int) := by rw [wrap64_id (by omega) (by omega)]; omega
    refine Ev.step (f := fun k => laws_eqByteS.l0 k l l ((i + 1 : Nat) : Int)) (fun k => ?_) (ih (i + 1) (by omega))
    simp only [laws_eqByteS.l0, hw]; rw [if_pos (by omega), if_pos (by omega), if_pos (by omega), if_pos trivial]
theorem eqByteS_ev (l : List Int) (hl : l.length ≤ 1048576) : Ev (fun k => laws_eqByteS.f k l l) true := by
  refine Ev.congr (f := fun k => laws_eqByteS.l0 k l l ((0 : Nat) : Int)) (fun k => ?_) (eqByteS_l0 l hl l.length 0 (by omega))
  unfold laws_eqByteS.f
  rw [if_pos rfl]; rfl

/-! ### the program's and the reference's number of bytes -/
theorem impl_num_l0 (l : List Int) (h : Bytes l) (h7 : l.length ≤ 7) (d : Nat) : ∀ i, i + d = l.length → Ev (fun k => impl_num.l0 k (num (l.take i)) l (l.length : Int) (i : Int)) (num l) := by
  induction d with
  | zero =>
    intro i hi
    refine Ev.step (f := fun _ => some (num l)) (fun k => ?_) (Ev.now _)
    simp only [impl_num.l0]; rw [if_neg (by omega), List.take_of_length_le (by omega)]
  | succ d ih =>
    intro i hi
    have hw : wrap64 ((i : Int) + 1) = ((i + 1 : Nat) : Int) := by rw [wrap64_id (by omega) (by omega)]; omega
    have h1 := num_6 h i (by omega) (by omega)
    have h2 := h _ (List.getElem_mem (show i < l.length by omega))
    have h3 := num_take l i (by omega)
    refine Ev.step (fun k => ?_) (ih (i + 1) (by omega))
    simp only [impl_num.l0, hw, rd_at l i (by omega)]
    rw [if_pos (by omega), if_pos (by omega), if_pos (by omega), h3, wrap64_id (x := num (l.take i) * 256) (by omega) (by omega), wrap64_id (x := l[i]) (by omega) (by omega), wrap64_id (by omega) (by omega)]
theorem impl_num_ev (l : List Int) (h : Bytes l) (h7 : l.length ≤ 7) : Ev (fun k => impl_num.f k l) (num l) :=
  impl_num_l0 l h h7 l.length 0 (by omega)
theorem spec_of_l0 (l : List Int) (h : Bytes l) (h7 : l.length ≤ 7) (d : Nat) : ∀ i, i + d = l.length → Ev (fun k => spec_l01Of.l0 k (strOfNums l) (num (l.take i)) (i : Int)) (num l) := by
  induction d with
  | zero =>
    intro i hi
    refine Ev.step (f := fun _ => some (num l)) (fun k => ?_) (Ev.now _)
    simp only [spec_l01Of.l0]; rw [if_neg (by rw [str_size]; omega), List.take_of_length_le (by omega)]
  | succ d ih =>
    intro i hi
    have hw : wrap64 ((i : Int) + 1) = ((i + 1 : Nat) : Int) := by rw [wrap64_id (by omega) (by omega)]; omega
    have h1 := num_6 h i (by omega) (by omega)
    have h2 := h _ (List.getElem_mem (show i < l.length by omega))
    have h3 := num_take l i (by omega)
    refine Ev.step (fun k => ?_) (ih (i + 1) (by omega))
    simp only [spec_l01Of.l0, hw, str_bt h, rd_at l i (by omega)]
    rw [if_pos (by rw [str_size]; omega), if_pos (by omega), h3, wrap64_id (x := num (l.take i) * 256) (by omega) (by omega), wrap64_id (x := l[i]) (by omega) (by omega), wrap64_id (by omega) (by omega)]
theorem spec_of_ev (l : List Int) (h : Bytes l) (h7 : l.length ≤ 7) : Ev (fun k => spec_l01Of.f k (strOfNums l)) (num l) :=
  spec_of_l0 l h h7 l.length 0 (by omega)

/-! ### the sum of words of 16 bits: one number to both -/
theorem sum_l1 (n : Nat) : ∀ c : Int, c.toNat ≤ n → 0 ≤ c → c < 4611686018427387904 → ∃ r, 0 ≤ r ∧ r ≤ 65535 ∧ Ev (fun k => spec_l01Sum16.l1 k c) r ∧ Ev (fun k => impl_sum16.l1 k c) r := by
  induction n with
  | zero =>
    intro c h1 h2 h3
    have : c = 0 := by omega
    subst this
    refine ⟨65535, by omega, by omega, Ev.step (fun k => ?_) (Ev.now _), Ev.step (fun k => ?_) (Ev.now _)⟩
    · simp only [spec_l01Sum16.l1]; rw [if_neg (by omega), wrap64_id (by omega) (by omega)]; rfl
    · simp only [impl_sum16.l1]; rw [if_neg (by omega), wrap64_id (by omega) (by omega)]; rfl
  | succ n ih =>
    intro c h1 h2 h3
    by_cases h : c > 65535
    · have e : wrap64 (Int.tmod c 65536 + wrap64 (Int.tdiv c 65536)) = c % 65536 + c / 65536 := by
        rw [Int.tmod_eq_emod_of_nonneg h2, Int.tdiv_eq_ediv_of_nonneg h2, wrap64_id (x := c / 65536) (by omega) (by omega), wrap64_id (by omega) (by omega)]
      obtain ⟨r, r0, r1, hS, hI⟩ := ih (c % 65536 + c / 65536) (by omega) (by omega) (by omega)
      refine ⟨r, r0, r1, Ev.step (fun k => ?_) hS, Ev.step (fun k => ?_) hI⟩
      · simp only [spec_l01Sum16.l1]; rw [if_pos h, e]
      · simp only [impl_sum16.l1]; rw [if_pos (by omega), e]
    · refine ⟨65535 - c, by omega, by omega, Ev.step (fun k => ?_) (Ev.now _), Ev.step (fun k => ?_) (Ev.now _)⟩
      · simp only [spec_l01Sum16.l1]; rw [if_neg h, wrap64_id (by omega) (by omega)]
      · simp only [impl_sum16.l1]; rw [if_neg (by omega), wrap64_id (by omega) (by omega)]
theorem sum_l0 (l : List Int) (hB : Bytes l) (hl : l.length ≤ 1048576) (d : Nat) : ∀ (i : Nat) (c : Int), i + d = l.length → 0 ≤ c → c ≤ 65280 * i → ∃ r, 0 ≤ r ∧ r ≤ 65535 ∧ Ev (fun k => spec_l01Sum16.l0 k (strOfNums l) c (i : Int)) r ∧ Ev (fun k => impl_sum16.l0 k c l (l.length : Int) (i : Int)) r := by
  induction d with
  | zero =>
    intro i c hi h0 h1
    obtain ⟨r, r0, r1, hS, hI⟩ := sum_l1 c.toNat c (Nat.le_refl _) h0 (by omega)
    refine ⟨r, r0, r1, Ev.step (fun k => ?_) hS, Ev.step (fun k => ?_) hI⟩
    · simp only [spec_l01Sum16.l0]; rw [if_neg (by rw [str_size]; omega)]
    · simp only [impl_sum16.l0]; rw [if_neg (by omega)]
  | succ d ih =>
    intro i c hi h0 h1
    have hw : wrap64 ((i : Int) + 1) = ((i + 1 : Nat) : Int) := by rw [wrap64_id (by omega) (by omega)]; omega
    have hb := rd_byte hB i
    have hm : Int.tmod (i : Int) 2 = ((i % 2 : Nat) : Int) := by rw [Int.tmod_eq_emod_of_nonneg (by omega)]; omega
    have w1 : wrap64 (rd l (i : Int)) = rd l i := wrap64_id (by omega) (by omega)
    by_cases he : i % 2 = 0
    · obtain ⟨r, r0, r1, hS, hI⟩ := ih (i + 1) (c + 256 * rd l i) (by omega) (by omega) (by omega)
      refine ⟨r, r0, r1, Ev.step (fun k => ?_) hS, Ev.step (fun k => ?_) hI⟩
      · simp only [spec_l01Sum16.l0, hw, hm, str_bt hB, w1]
        rw [if_pos (by rw [str_size]; omega), if_pos (by omega), if_pos (by omega), wrap64_id (x := 256 * rd l i) (by omega) (by omega), wrap64_id (by omega) (by omega)]
      · simp only [impl_sum16.l0, hw, hm, w1]
        rw [if_pos (by omega), if_pos (by omega), if_pos (by omega), if_pos (by omega), wrap64_id (x := rd l i * 256) (by omega) (by omega), wrap64_id (by omega) (by omega), Int.mul_comm]
    · obtain ⟨r, r0, r1, hS, hI⟩ := ih (i + 1) (c + rd l i) (by omega) (by omega) (by omega)
      refine ⟨r, r0, r1, Ev.step (fun k => ?_) hS, Ev.step (fun k => ?_) hI⟩
      · simp only [spec_l01Sum16.l0, hw, hm, str_bt hB, w1]
        rw [if_pos (by rw [str_size]; omega), if_neg (by omega), if_pos (by omega), wrap64_id (by omega) (by omega)]
      · simp only [impl_sum16.l0, hw, hm, w1]
        rw [if_pos (by omega), if_pos (by omega), if_pos (by omega), if_neg (by omega), wrap64_id (by omega) (by omega)]
theorem sum_ev (l : List Int) (hB : Bytes l) (hl : l.length ≤ 1048576) : ∃ r, 0 ≤ r ∧ r ≤ 65535 ∧ Ev (fun k => spec_l01Sum16.f k (strOfNums l)) r ∧ Ev (fun k => impl_sum16.f k l) r :=
  sum_l0 l hB hl l.length 0 0 (by omega) (by omega) (by omega)

-- SAYS: ReadPacket: both ask the same of a row, in the same order, and cut it at the same places.
-- USES: Bytes Wire Num Sum
abbrev Pk := Int × Int × Int × Int × Int × ByteArray × Int
abbrev noPk (c : Int) : Pk := (0, 0, 0, 0, 0, ⟨#[]⟩, c)
theorem readPacket (l : List Int) (hB : Bytes l) : ∃ r : Pk, Ev (fun k => spec_l02ReadPacket.f k (strOfNums l)) r ∧ Ev (fun k => impl_readPacket.f k l) r := by
  have hs : (strOfNums l).size = l.length := str_size l
  have sT : Ev (fun k => spec_l02ReadPacket.j0 k (strOfNums l) true) (noPk 3) := Ev.step (fun k => by simp only [spec_l02ReadPacket.j0]; rw [if_pos (by decide)]) (Ev.now _)
  have iT : Ev (fun k => impl_readPacket.j0 k l true) (noPk 3) := Ev.step (fun k => by simp only [impl_readPacket.j0]; rw [if_pos (by decide)]) (Ev.now _)
  have sT1 : ∀ t, Ev (fun k => spec_l02ReadPacket.j1 k (strOfNums l) t true) (noPk 3) := fun t => Ev.step (fun k => by simp only [spec_l02ReadPacket.j1]; rw [if_pos (by decide)]) (Ev.now _)
  by_cases h1 : 20 ≤ l.length ∧ l.length ≤ 400
  · have e0 : bt (strOfNums l) 0 = rd l 0 := str_bt hB 0
    have e8 : bt (strOfNums l) 8 = rd l 8 := str_bt hB 8
    have e9 : bt (strOfNums l) 9 = rd l 9 := str_bt hB 9
    have p0 : (0 : Int) < l.length := by omega
    have p4 : (4 : Int) ≤ l.length := by omega
    have p6 : (6 : Int) ≤ l.length := by omega
    have p8 : (8 : Int) ≤ l.length := by omega
    have p8' : (8 : Int) < l.length := by omega
    have p9 : (9 : Int) < l.length := by omega
    have p16 : (16 : Int) ≤ l.length := by omega
    have p20 : (20 : Int) ≤ l.length := by omega
    have cut : ∀ a b : Nat, (strOfNums l).extract a b = strOfNums ((l.take b).drop a) := str_cut l
    have hn : ∀ a b : Nat, a ≤ b → b ≤ 20 → ((l.take b).drop a).length = b - a := fun a b h2 h3 => by rw [List.length_drop, List.length_take]; omega
    have bb : ∀ a b : Nat, Bytes ((l.take b).drop a) := fun a b => bytes_drop (bytes_take hB b) a
    have S : ∀ a b : Nat, a ≤ b → b ≤ 20 → b - a ≤ 7 → Ev (fun k => spec_l01Of.f k (strOfNums ((l.take b).drop a))) (num ((l.take b).drop a)) := fun a b h2 h3 h4 => spec_of_ev _ (bb a b) (by rw [hn a b h2 h3]; exact h4)
    have I : ∀ a b : Nat, a ≤ b → b ≤ 20 → b - a ≤ 7 → Ev (fun k => impl_num.f k ((l.take b).drop a)) (num ((l.take b).drop a)) := fun a b h2 h3 h4 => impl_num_ev _ (bb a b) (by rw [hn a b h2 h3]; exact h4)
    obtain ⟨s, s0, s1, sS, sI⟩ := sum_ev (l.take 20) (bytes_take hB 20) (by rw [List.length_take]; omega)
    -- behind the first questions
    have tail : 20 ≤ num ((l.take 4).drop 2) → num ((l.take 4).drop 2) ≤ l.length → ∃ r : Pk, Ev (fun k => spec_l02ReadPacket.j1 k (strOfNums l) (num ((l.take 4).drop 2)) false) r ∧ Ev (fun k => impl_readPacket.j0 k l false) r := by
      intro t0 t1
      generalize hq : num ((l.take 4).drop 2) = t at t0 t1
      have It := I 2 4 (by omega) (by omega) (by omega)
      rw [hq] at It
      by_cases hz : s = 0
      · by_cases ha : Go.bits .and .i64 (num ((l.take 8).drop 6)) 16383 = 0
        · refine ⟨(num ((l.take 16).drop 12), num ((l.take 20).drop 16), wrap64 (rd l 9), wrap64 (rd l 8), num ((l.take 6).drop 4), strOfNums ((l.take t.toNat).drop 20), 0), ?_, ?_⟩
          · refine Ev.step (fun k => by simp only [spec_l02ReadPacket.j1, hs, cut, p20, p8, p16, p9, p8', p6, Int.reduceLE, Nat.reduceLeDiff, if_true, Bool.false_eq_true, if_false, List.drop_zero, e8, e9, t0, t1]; rfl) ?_
            refine Ev.bind sS ?_
            simp only [hz, if_true]
            refine Ev.bind (S 6 8 (by omega) (by omega) (by omega)) ?_
            simp only [ha, if_true]
            exact Ev.bind (S 12 16 (by omega) (by omega) (by omega)) (Ev.bind (S 16 20 (by omega) (by omega) (by omega)) (Ev.bind (S 4 6 (by omega) (by omega) (by omega)) (Ev.now _)))
          · refine Ev.step (fun k => by simp only [impl_readPacket.j0, p20, p8, p16, p9, p8', p6, p4, Int.reduceLE, Nat.reduceLeDiff, if_true, Bool.false_eq_true, if_false]; rfl) ?_
            refine Ev.bind sI ?_
            simp only [hz, if_true]
            refine Ev.bind (I 6 8 (by omega) (by omega) (by omega)) ?_
            simp only [ha, if_true]
            refine Ev.bind (I 12 16 (by omega) (by omega) (by omega)) (Ev.bind (I 16 20 (by omega) (by omega) (by omega)) (Ev.bind (I 4 6 (by omega) (by omega) (by omega)) (Ev.bind It ?_)))
            simp only [t0, t1, if_true]
            exact Ev.now _
        · refine ⟨noPk 11, ?_, ?_⟩
          · refine Ev.step (fun k => by simp only [spec_l02ReadPacket.j1, hs, cut, p20, p8, Int.reduceLE, Nat.reduceLeDiff, if_true, Bool.false_eq_true, if_false, List.drop_zero]; rfl) ?_
            refine Ev.bind sS ?_
            simp only [hz, if_true]
            refine Ev.bind (S 6 8 (by omega) (by omega) (by omega)) ?_
            simp only [ha, if_false]
            exact Ev.now _
          · refine Ev.step (fun k => by simp only [impl_readPacket.j0, p20, p8, Int.reduceLE, Nat.reduceLeDiff, if_true, Bool.false_eq_true, if_false]; rfl) ?_
            refine Ev.bind sI ?_
            simp only [hz, if_true]
            refine Ev.bind (I 6 8 (by omega) (by omega) (by omega)) ?_
            simp only [ha, if_false]
            exact Ev.now _
      · refine ⟨noPk 8, ?_, ?_⟩
        · refine Ev.step (fun k => by simp only [spec_l02ReadPacket.j1, hs, cut, p20, Int.reduceLE, Nat.reduceLeDiff, if_true, Bool.false_eq_true, if_false, List.drop_zero]; rfl) ?_
          refine Ev.bind sS ?_
          simp only [hz, if_false]
          exact Ev.now _
        · refine Ev.step (fun k => by simp only [impl_readPacket.j0, p20, Int.reduceLE, Nat.reduceLeDiff, if_true, Bool.false_eq_true, if_false]; rfl) ?_
          refine Ev.bind sI ?_
          simp only [hz, if_false]
          exact Ev.now _
    have hf : ∀ r, Ev (fun k => spec_l02ReadPacket.j0 k (strOfNums l) (rd l 0 != 69)) r → Ev (fun k => spec_l02ReadPacket.f k (strOfNums l)) r := fun r h => Ev.congr (fun k => by
      unfold spec_l02ReadPacket.f
      rw [hs, if_neg (by omega), if_neg (by omega), if_pos p0, e0]) h
    by_cases h2 : rd l 0 = 69
    · have hg : ∀ r, Ev (fun k => impl_readPacket.j0 k l (!(if num ((l.take 4).drop 2) ≥ 20 then decide (num ((l.take 4).drop 2) ≤ l.length) else false))) r → Ev (fun k => impl_readPacket.f k l) r := fun r h => by
        refine Ev.congr (f := fun k => (impl_num.f k ((l.take 4).drop 2)).bind fun t302 => (impl_within.f t302 20 (l.length : Int)).bind fun t303 => impl_readPacket.j0 k l (!t303)) (fun k => ?_) (Ev.bind (I 2 4 (by omega) (by omega) (by omega)) ?_)
        · unfold impl_readPacket.f
          rw [show impl_within.f (l.length : Int) 20 400 = some true from by unfold impl_within.f; rw [if_pos (by omega), decide_eq_true (by omega)], Option.bind_some, if_pos rfl, if_pos p0, if_pos h2, if_pos (by decide), if_pos p4]
        · refine Ev.congr (fun k => ?_) h
          unfold impl_within.f
          split <;> rfl
      have hj : ∀ r, (num ((l.take 4).drop 2) < 20 → Ev (fun k => spec_l02ReadPacket.j1 k (strOfNums l) (num ((l.take 4).drop 2)) true) r) → (¬ num ((l.take 4).drop 2) < 20 → Ev (fun k => spec_l02ReadPacket.j1 k (strOfNums l) (num ((l.take 4).drop 2)) (decide (num ((l.take 4).drop 2) > l.length))) r) → Ev (fun k => spec_l02ReadPacket.f k (strOfNums l)) r := fun r ha hb => by
        refine hf r ?_
        refine Ev.step (fun k => by simp only [spec_l02ReadPacket.j0, h2, hs, cut, p4, Int.reduceLE, Nat.reduceLeDiff, if_true, bne_self_eq_false, Bool.false_eq_true, if_false]; rfl) ?_
        refine Ev.bind (S 2 4 (by omega) (by omega) (by omega)) ?_
        by_cases h : num ((l.take 4).drop 2) < 20
        · simp only [h, if_true]; exact ha h
        · simp only [h, if_false]; exact hb h
      by_cases t0 : 20 ≤ num ((l.take 4).drop 2)
      · by_cases t1 : num ((l.take 4).drop 2) ≤ l.length
        · obtain ⟨r, hS, hI⟩ := tail t0 t1
          refine ⟨r, hj r (fun h => absurd h (by omega)) (fun _ => ?_), hg r ?_⟩
          · rw [decide_eq_false (by omega)]; exact hS
          · rw [if_pos t0, decide_eq_true t1]; exact hI
        · refine ⟨noPk 3, hj _ (fun h => absurd h (by omega)) (fun _ => ?_), hg _ ?_⟩
          · rw [decide_eq_true (by omega)]; exact sT1 _
          · rw [if_pos t0, decide_eq_false t1]; exact iT
      · refine ⟨noPk 3, hj _ (fun _ => sT1 _) (fun h => absurd (by omega) h), hg _ ?_⟩
        rw [if_neg (by omega)]; exact iT
    · refine ⟨noPk 3, hf _ ?_, Ev.congr (fun k => ?_) iT⟩
      · rw [show (rd l 0 != 69) = true from by simp [h2]]; exact sT
      · unfold impl_readPacket.f
        rw [show impl_within.f (l.length : Int) 20 400 = some true from by unfold impl_within.f; rw [if_pos (by omega), decide_eq_true (by omega)], Option.bind_some, if_pos rfl, if_pos p0, if_neg h2]
  · refine ⟨noPk 3, Ev.congr (fun k => ?_) sT, Ev.congr (fun k => ?_) iT⟩
    · unfold spec_l02ReadPacket.f
      rw [hs]
      by_cases h2 : (l.length : Int) < 20
      · rw [if_pos h2]
      · rw [if_neg h2, if_pos (by omega)]
    · unfold impl_readPacket.f impl_within.f
      by_cases h2 : (l.length : Int) ≥ 20
      · rw [if_pos h2, decide_eq_false (by omega)]; simp
      · rw [if_neg h2]; simp
theorem FnExactReadPacket : laws_FnExactReadPacket.Pure := by
  intro l _ _ hb
  apply Ev.rounds
  by_cases h0 : (l.length : Int) > 1048576
  · refine Ev.congr (fun k => ?_) (Ev.now true)
    unfold laws_FnExactReadPacket.f; rw [if_pos h0]
  · have hT := toByteS_ev l (by omega)
    have hE := eqByteS_ev l (by omega)
    have hB := bytes_wf hb
    have key : ∃ r : Pk, Ev (fun k => spec_ReadPacket.f k l) r ∧ Ev (fun k => impl_ReadPacket.f k l) r := by
      by_cases h1 : (l.length : Int) > 65536
      · exact ⟨_, Ev.congr (fun k => by unfold spec_ReadPacket.f; rw [if_pos h1]) (Ev.now _), Ev.congr (fun k => by unfold impl_ReadPacket.f; rw [if_pos h1]) (Ev.now _)⟩
      · obtain ⟨⟨r1, r2, r3, r4, r5, r6, r7⟩, hS, hI⟩ := readPacket l hB
        refine ⟨(r1, r2, r3, r4, r5, r6, r7), Ev.congr (fun k => by unfold spec_ReadPacket.f; rw [if_neg h1]) (Ev.bind hS (Ev.now _)), Ev.congr (fun k => by unfold impl_ReadPacket.f; rw [if_neg h1]) (Ev.bind hI (Ev.now _))⟩
    obtain ⟨⟨r1, r2, r3, r4, r5, r6, r7⟩, hS, hI⟩ := key
    refine Ev.congr (fun k => by unfold laws_FnExactReadPacket.f; rw [if_neg h0]) ?_
    refine Ev.bind hT (Ev.bind hS (Ev.bind hT (Ev.bind hI ?_)))
    simp only [laws_eqPacket.f, if_true, bne_self_eq_false, Option.bind_some]
    refine Ev.step (fun k => by simp only [laws_FnExactReadPacket.j0]; rw [if_neg (by decide)]) ?_
    refine Ev.bind hT (Ev.bind hE (Ev.now _))

end Go.Proofs.Ytohlocmdpdghiaa.Pure
