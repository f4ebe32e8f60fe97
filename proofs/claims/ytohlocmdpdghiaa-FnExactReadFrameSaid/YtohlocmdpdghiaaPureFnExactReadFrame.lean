/- ReadFrame: a row of 14 to 414 bytes is cut at the same places by both; what is refused is refused alike. -/
import Derived.Test.YtohlocmdpdghiaaPAllx6
import Derived.Test.YtohlocmdpdghiaaBase
set_option linter.unusedSimpArgs false
set_option linter.unusedVariables false
namespace Go.Proofs.Ytohlocmdpdghiaa.Pure
open Go.RowKit Go.Proofs.Ytohlocmdpdghiaa.PAll Go.Proofs.YtohlocmdpdghiaaW.PrintWords Go.Proofs.YtohlocmdpdghiaaW.PrintLast Go.Proofs.YtohlocmdpdghiaaW.PrintMore Base

/-! ### rows of bytes and the strings of them -/
def Bytes (l : List Int) : Prop := ∀ x ∈ l, 0 ≤ x ∧ x < 256
theorem bytes_wf {l : List Int} (h : ∀ x ∈ l, (Lit.int .u8 x).wf = true) : Bytes l := fun x hx => wf_u8 (h x hx)
theorem bytes_take {l : List Int} (h : Bytes l) (n : Nat) : Bytes (l.take n) := fun x hx => h x (List.mem_of_mem_take hx)
theorem bytes_drop {l : List Int} (h : Bytes l) (n : Nat) : Bytes (l.drop n) := fun x hx => h x (List.mem_of_mem_drop hx)
theorem rd_nat (l : List Int) (i : Nat) : rd l (i : Int) = l.getD i 0 := by simp [rd]
theorem rd_at (l : List Int) (i : Nat) (h : i < l.length) : rd l (i : Int) = l[i] := by
  rw [rd_nat, List.getD_eq_getElem?_getD, List.getElem?_eq_getElem h]; rfl
theorem rd_byte {l : List Int} (h : Bytes l) (i : Nat) : 0 ≤ rd l (i : Int) ∧ rd l (i : Int) < 256 := by
  by_cases hi : i < l.length
  · rw [rd_at l i hi]; exact h _ (List.getElem_mem hi)
  · rw [rd_nat, List.getD_eq_getElem?_getD, List.getElem?_eq_none (by omega)]; simp
theorem str_bt {l : List Int} (h : Bytes l) (i : Nat) : bt (strOfNums l) (i : Int) = rd l (i : Int) := by
  rw [bt_nat, strOfNums_data, rd_nat, List.getD_eq_getElem?_getD, List.getD_eq_getElem?_getD, List.getElem?_map]
  by_cases hi : i < l.length
  · rw [List.getElem?_eq_getElem hi]
    simp only [Option.map_some, Option.getD_some]
    have := h _ (List.getElem_mem hi)
    rw [UInt8.toNat_ofNat']; omega
  · rw [List.getElem?_eq_none (by omega)]; rfl
theorem str_cut (l : List Int) (a b : Nat) : (strOfNums l).extract a b = strOfNums ((l.take b).drop a) := by
  apply toList_inj
  rw [toList_data, toList_data, strOfNums_data, ByteArray.data_extract, Array.toList_extract, List.extract_eq_take_drop, strOfNums_data, List.map_drop, List.map_take, List.drop_take]
theorem str_size (l : List Int) : (strOfNums l).size = l.length := strOfNums_size l

/-! ### the number of a row of bytes, high byte first -/
def num (l : List Int) : Int := l.foldl (fun n c => n * 256 + c) 0
theorem num_snoc (l : List Int) (c : Int) : num (l ++ [c]) = num l * 256 + c := by simp [num]
theorem num_take (l : List Int) (i : Nat) (h : i < l.length) : num (l.take (i + 1)) = num (l.take i) * 256 + l[i] := by
  rw [List.take_succ_eq_append_getElem h, num_snoc]
theorem num_0 {l : List Int} (h : Bytes l) : ∀ i, i ≤ l.length → 0 ≤ num (l.take i) ∧ num (l.take i) < 256 ^ i := by
  intro i
  induction i with
  | zero => intro _; rw [List.take_zero]; exact ⟨by decide, by decide⟩
  | succ i ih =>
    intro hi
    have h1 := ih (by omega)
    have h2 := h _ (List.getElem_mem (show i < l.length by omega))
    rw [num_take l i (by omega), Int.pow_succ]
    omega
theorem num_6 {l : List Int} (h : Bytes l) (i : Nat) (hi : i ≤ l.length) (h7 : i ≤ 6) : 0 ≤ num (l.take i) ∧ num (l.take i) < 281474976710656 := by
  have h1 := num_0 h i hi
  rcases (show i = 0 ∨ i = 1 ∨ i = 2 ∨ i = 3 ∨ i = 4 ∨ i = 5 ∨ i = 6 by omega) with e | e | e | e | e | e | e <;> rw [e] at h1 ⊢ <;> omega
theorem num_lt {l : List Int} (h : Bytes l) (n : Nat) (hn : l.length = n) : 0 ≤ num l ∧ num l < 256 ^ n := by
  have := num_0 h l.length (Nat.le_refl _)
  rw [List.take_length] at this; rw [hn] at this; exact this

/-! ### a row copied, two rows compared -/
theorem toByteS_l0 (l : List Int) (hl : l.length ≤ 1048576) (d : Nat) : ∀ (i : Nat) (x : List Int), i + d = l.length → x.length = l.length → (∀ j, j < i → x[j]? = l[j]?) → Ev (fun k => laws_toByteS.l0 k l x (i : Int)) l := by
  induction d with
  | zero =>
    intro i x hi hx hj
    have hxl : x = l := by
      apply List.ext_getElem?
      intro j
      by_cases h : j < i
      · exact hj j h
      · rw [List.getElem?_eq_none (by omega), List.getElem?_eq_none (by omega)]
    subst hxl
    refine Ev.step (f := fun _ => some x) (fun k => ?_) (Ev.now _)
    simp only [laws_toByteS.l0]; rw [if_neg (by omega)]
  | succ d ih =>
    intro i x hi hx hj
    have hw : wrap64 ((i : Int) + 1) = ((i + 1 : Nat) : Int) := by rw [wrap64_id (by omega) (by omega)]; omega
    refine Ev.step (f := fun k => laws_toByteS.l0 k l (x.set i (rd l i)) ((i + 1 : Nat) : Int)) (fun k => ?_) (ih (i + 1) _ (by omega) (by simpa using hx) ?_)
    · simp only [laws_toByteS.l0, hw]; rw [if_pos (by omega), if_pos (by omega), if_pos (by omega)]; rfl
    · intro j hji
      by_cases h : j = i
      · subst h
        rw [List.getElem?_set_self (by omega), rd_nat, List.getD_eq_getElem?_getD, List.getElem?_eq_getElem (by omega)]; rfl
      · rw [List.getElem?_set_ne (by omega)]; exact hj j (by omega)
theorem toByteS_ev (l : List Int) (hl : l.length ≤ 1048576) : Ev (fun k => laws_toByteS.f k l) l := by
  refine Ev.congr (f := fun k => laws_toByteS.l0 k l (List.replicate l.length 0) ((0 : Nat) : Int)) (fun k => ?_) (toByteS_l0 l hl l.length 0 _ (by omega) (by simp) (fun j hj => by omega))
  unfold laws_toByteS.f
  rw [if_pos (by omega), if_pos (by omega)]; rfl
theorem eqByteS_l0 (l : List Int) (hl : l.length ≤ 1048576) (d : Nat) : ∀ (i : Nat), i + d = l.length → Ev (fun k => laws_eqByteS.l0 k l l (i : Int)) true := by
  induction d with
  | zero =>
    intro i hi
    refine Ev.step (f := fun _ => some true) (fun k => ?_) (Ev.now _)
    simp only [laws_eqByteS.l0]; rw [if_neg (by omega)]
  | succ d ih =>
    intro i hi
    have hw : wrap64 ((i : Int) + 1) = ((i + 1 : Nat) : Int) := by rw [wrap64_id (by omega) (by omega)]; omega
    refine Ev.step (f := fun k => laws_eqByteS.l0 k l l ((i + 1 : Nat) : Int)) (fun k => ?_) (ih (i + 1) (by omega))
    simp only [laws_eqByteS.l0, hw]; rw [if_pos (by omega), if_pos (by omega), if_pos (by omega), if_pos trivial]
theorem eqByteS_ev (l : List Int) (hl : l.length ≤ 1048576) : Ev (fun k => laws_eqByteS.f k l l) true := by
  refine Ev.congr (f := fun k => laws_eqByteS.l0 k l l ((0 : Nat) : Int)) (fun k => ?_) (eqByteS_l0 l hl l.length 0 (by omega))
  unfold laws_eqByteS.f
  rw [if_pos rfl]; rfl

/-! ### the program's and the reference's number of bytes -/
theorem impl_num_l0 (l : List Int) (h : Bytes l) (h7 : l.length ≤ 7) (d : Nat) : ∀ i, i + d = l.length → Ev (fun k => impl_num.l0 k (num (l.take i)) l (l.length : Int) (i : Int)) (num l) := by
  induction d with
  | zero =>
    intro i hi
    refine Ev.step (f := fun _ => some (num l)) (fun k => ?_) (Ev.now _)
    simp only [impl_num.l0]; rw [if_neg (by omega), List.take_of_length_le (by omega)]
  | succ d ih =>
    intro i hi
    have hw : wrap64 ((i : Int) + 1) = ((i + 1 : Nat) : Int) := by rw [wrap64_id (by omega) (by omega)]; omega
    have h1 := num_6 h i (by omega) (by omega)
    have h2 := h _ (List.getElem_mem (show i < l.length by omega))
    have h3 := num_take l i (by omega)
    refine Ev.step (fun k => ?_) (ih (i + 1) (by omega))
    simp only [impl_num.l0, hw, rd_at l i (by omega)]
    rw [if_pos (by omega), if_pos (by omega), if_pos (by omega), h3, wrap64_id (x := num (l.take i) * 256) (by omega) (by omega), wrap64_id (x := l[i]) (by omega) (by omega), wrap64_id (by omega) (by omega)]
theorem impl_num_ev (l : List Int) (h : Bytes l) (h7 : l.length ≤ 7) : Ev (fun k => impl_num.f k l) (num l) :=
  impl_num_l0 l h h7 l.length 0 (by omega)
theorem spec_of_l0 (l : List Int) (h : Bytes l) (h7 : l.length ≤ 7) (d : Nat) : ∀ i, i + d = l.length → Ev (fun k => spec_l01Of.l0 k (strOfNums l) (num (l.take i)) (i : Int)) (num l) := by
  induction d with
  | zero =>
    intro i hi
    refine Ev.step (f := fun _ => some (num l)) (fun k => ?_) (Ev.now _)
    simp only [spec_l01Of.l0]; rw [if_neg (by rw [str_size]; omega), List.take_of_length_le (by omega)]
  | succ d ih =>
    intro i hi
    have hw : wrap64 ((i : Int) + 1) = ((i + 1 : Nat) : Int) := by rw [wrap64_id (by omega) (by omega)]; omega
    have h1 := num_6 h i (by omega) (by omega)
    have h2 := h _ (List.getElem_mem (show i < l.length by omega))
    have h3 := num_take l i (by omega)
    refine Ev.step (fun k => ?_) (ih (i + 1) (by omega))
    simp only [spec_l01Of.l0, hw, str_bt h, rd_at l i (by omega)]
    rw [if_pos (by rw [str_size]; omega), if_pos (by omega), h3, wrap64_id (x := num (l.take i) * 256) (by omega) (by omega), wrap64_id (x := l[i]) (by omega) (by omega), wrap64_id (by omega) (by omega)]
theorem spec_of_ev (l : List Int) (h : Bytes l) (h7 : l.length ≤ 7) : Ev (fun k => spec_l01Of.f k (strOfNums l)) (num l) :=
  spec_of_l0 l h h7 l.length 0 (by omega)

-- SAYS: ReadFrame: a row of 14 to 414 bytes is cut at the same places by both; what is refused is refused alike.
-- USES: Bytes Wire Num
abbrev Fr := ByteArray × ByteArray × Int × ByteArray × Int
theorem readFrame (l : List Int) (hB : Bytes l) (hl : l.length ≤ 65536) : ∃ r : Fr, Ev (fun k => spec_l02ReadFrame.f k (strOfNums l)) r ∧ Ev (fun k => impl_readFrame.f k l) r := by
  have hs : (strOfNums l).size = l.length := str_size l
  by_cases h1 : 14 ≤ l.length ∧ l.length ≤ 414
  · have c1 := str_cut l 12 14
    have c2 := str_cut l 0 6
    have c3 := str_cut l 6 12
    have c4 : (strOfNums l).extract 14 l.length = strOfNums (l.drop 14) := by rw [str_cut, List.take_length]
    have n1 : ((l.take 14).drop 12).length = 2 := by rw [List.length_drop, List.length_take]; omega
    have hN := num_lt (bytes_drop (bytes_take hB 14) 12) 2 n1
    have hS := spec_of_ev ((l.take 14).drop 12) (bytes_drop (bytes_take hB 14) 12) (by omega)
    have hI := impl_num_ev ((l.take 14).drop 12) (bytes_drop (bytes_take hB 14) 12) (by omega)
    have z1 : (strOfNums (l.take 6)).size = 6 := by rw [str_size, List.length_take]; omega
    have z2 : (strOfNums ((l.take 12).drop 6)).size = 6 := by rw [str_size, List.length_drop, List.length_take]; omega
    have z4 : (strOfNums (l.drop 14)).size = l.length - 14 := by rw [str_size, List.length_drop]
    have e2 : (strOfNums l).extract 0 6 = strOfNums (l.take 6) := by rw [c2, List.drop_zero]
    generalize hq : num ((l.take 14).drop 12) = q at hN hS hI
    refine ⟨if q = 2048 ∨ q = 2054 then (strOfNums (l.take 6), strOfNums ((l.take 12).drop 6), q, strOfNums (l.drop 14), 0) else (⟨#[]⟩, ⟨#[]⟩, 0, ⟨#[]⟩, 10), ?_, ?_⟩
    · refine Ev.congr (f := fun k => spec_l02ReadFrame.j0 k (strOfNums l) false) (fun k => ?_) ?_
      · unfold spec_l02ReadFrame.f
        rw [hs, if_neg (by omega), decide_eq_false (by omega)]
      · refine Ev.step (f := fun k => (spec_l01Of.f k (strOfNums ((l.take 14).drop 12))).bind fun t => (spec_l02Frame.f (strOfNums (l.take 6)) (strOfNums ((l.take 12).drop 6)) t (strOfNums (l.drop 14))).bind fun t171 => if t171 = true then some (strOfNums (l.take 6), strOfNums ((l.take 12).drop 6), t, strOfNums (l.drop 14), 0) else some (⟨#[]⟩, ⟨#[]⟩, 0, ⟨#[]⟩, 10)) (fun k => ?_) (Ev.bind hS ?_)
        · simp only [spec_l02ReadFrame.j0, hs, c1, c3, c4, e2]
          rw [if_neg (by decide), if_pos (by decide), if_pos (by omega), if_pos (by decide), if_pos (by omega), if_pos (by decide), if_pos (by omega)]
        · refine Ev.congr (fun k => ?_) (Ev.now _)
          simp only [spec_l02Frame.f, spec_l01Mac.f, z1, z2, z4, Option.bind_some]
          have g1 : (((l.length - 14 : Nat) : Int) ≤ 400) := by omega
          by_cases q1 : q = 2048
          · simp [q1, g1]
          · by_cases q2 : q = 2054
            · simp [q2, g1]
            · simp [q1, q2]
    · refine Ev.congr (f := fun k => (impl_num.f k ((l.take 14).drop 12)).bind fun t => if t = 2048 then some (strOfNums (l.take 6), strOfNums ((l.take 12).drop 6), t, strOfNums (l.drop 14), 0) else if t = 2054 then some (strOfNums (l.take 6), strOfNums ((l.take 12).drop 6), t, strOfNums (l.drop 14), 0) else some (⟨#[]⟩, ⟨#[]⟩, 0, ⟨#[]⟩, 10)) (fun k => ?_) (Ev.bind hI ?_)
      · unfold impl_readFrame.f impl_within.f
        rw [if_pos (by omega), decide_eq_true (by omega), Option.bind_some, if_pos rfl, if_pos (by omega), if_pos (by decide), if_pos (by omega), if_pos (by decide), if_pos (by omega)]
      · refine Ev.congr (fun k => ?_) (Ev.now _)
        by_cases q1 : q = 2048
        · rw [if_pos q1, if_pos (.inl q1)]
        · by_cases q2 : q = 2054
          · rw [if_neg q1, if_pos q2, if_pos (.inr q2)]
          · rw [if_neg q1, if_neg q2, if_neg (by omega)]
  · refine ⟨(⟨#[]⟩, ⟨#[]⟩, 0, ⟨#[]⟩, 3), ?_, ?_⟩
    · refine Ev.congr (f := fun k => spec_l02ReadFrame.j0 k (strOfNums l) true) (fun k => ?_) (Ev.step (fun k => ?_) (Ev.now _))
      · unfold spec_l02ReadFrame.f
        rw [hs]
        by_cases h2 : (l.length : Int) < 14
        · rw [if_pos h2]
        · rw [if_neg h2, decide_eq_true (by omega)]
      · simp only [spec_l02ReadFrame.j0]; rw [if_pos (by decide)]
    · refine Ev.congr (fun k => ?_) (Ev.now _)
      unfold impl_readFrame.f impl_within.f
      by_cases h2 : (l.length : Int) ≥ 14
      · rw [if_pos h2, decide_eq_false (by omega)]; simp
      · rw [if_neg h2]; simp
theorem FnExactReadFrame : laws_FnExactReadFrame.Pure := by
  intro l _ _ hb
  apply Ev.rounds
  by_cases h0 : (l.length : Int) > 1048576
  · refine Ev.congr (fun k => ?_) (Ev.now true)
    unfold laws_FnExactReadFrame.f; rw [if_pos h0]
  · have hT := toByteS_ev l (by omega)
    have hE := eqByteS_ev l (by omega)
    have hB := bytes_wf hb
    have key : ∃ r : Fr, Ev (fun k => spec_ReadFrame.f k l) r ∧ Ev (fun k => impl_ReadFrame.f k l) r := by
      by_cases h1 : (l.length : Int) > 65536
      · exact ⟨_, Ev.congr (fun k => by unfold spec_ReadFrame.f; rw [if_pos h1]) (Ev.now _), Ev.congr (fun k => by unfold impl_ReadFrame.f; rw [if_pos h1]) (Ev.now _)⟩
      · obtain ⟨⟨r1, r2, r3, r4, r5⟩, hS, hI⟩ := readFrame l hB (by omega)
        refine ⟨(r1, r2, r3, r4, r5), Ev.congr (fun k => by unfold spec_ReadFrame.f; rw [if_neg h1]) (Ev.bind hS (Ev.now _)), Ev.congr (fun k => by unfold impl_ReadFrame.f; rw [if_neg h1]) (Ev.bind hI (Ev.now _))⟩
    obtain ⟨⟨r1, r2, r3, r4, r5⟩, hS, hI⟩ := key
    refine Ev.congr (fun k => by unfold laws_FnExactReadFrame.f; rw [if_neg h0]) ?_
    refine Ev.bind hT (Ev.bind hS (Ev.bind hT (Ev.bind hI ?_)))
    simp only [laws_eqFrame.f, if_true, bne_self_eq_false, Option.bind_some]
    refine Ev.step (fun k => by simp only [laws_FnExactReadFrame.j0]; rw [if_neg (by decide)]) ?_
    refine Ev.bind hT (Ev.bind hE (Ev.now _))

end Go.Proofs.Ytohlocmdpdghiaa.Pure
