/- ReadArp: a row of 28 bytes with the right head is cut at the same places by both; what is refused is refused alike. -/
import Derived.Test.YtohlocmdpdghiaaPAllx9
import Derived.Test.YtohlocmdpdghiaaBase
set_option linter.unusedSimpArgs false
set_option linter.unusedVariables false
namespace Go.Proofs.Ytohlocmdpdghiaa.Pure
open Go.RowKit Go.Proofs.Ytohlocmdpdghiaa.PAll Go.Proofs.YtohlocmdpdghiaaW.PrintWords Go.Proofs.YtohlocmdpdghiaaW.PrintLast Go.Proofs.YtohlocmdpdghiaaW.PrintMore Base

/-! ### rows of bytes and the strings of them -/
def Bytes (l : List Int) : Prop := ∀ x ∈ l, 0 ≤ x ∧ x < 256
theorem bytes_wf {l : List Int} (h : ∀ x ∈ l, (Lit.int .u8 x).wf = true) : Bytes l := fun x hx => wf_u8 (h x hx)
theorem bytes_take {l : List Int} (h : Bytes l) (n : Nat) : Bytes (l.take n) := fun x hx => h x (List.mem_of_mem_take hx)
theorem bytes_drop {l : List Int} (h : Bytes l) (n : Nat) : Bytes (l.drop n) := fun x hx => h x (List.mem_of_mem_drop hx)
theorem rd_nat (l : List Int) (i : Nat) : rd l (i : Int) = l.getD i 0 := by simp [rd]
theorem rd_at (l : List Int) (i : Nat) (h : i < l.length) : rd l (i : Int) = l[i] := by
  rw [rd_nat, List.getD_eq_getElem?_getD, List.getElem?_eq_getElem h]; rfl
theorem rd_byte {l : List Int} (h : Bytes l) (i : Nat) : 0 ≤ rd l (i : Int) ∧ rd l (i : Int) < 256 := by
  by_cases hi : i < l.length
  · rw [rd_at l i hi]; exact h _ (List.getElem_mem hi)
  · rw [rd_nat, List.getD_eq_getElem?_getD, List.getElem?_eq_none (by omega)]; simp
theorem str_bt {l : List Int} (h : Bytes l) (i : Nat) : bt (strOfNums l) (i : Int) = rd l (i : Int) := by
  rw [bt_nat, strOfNums_data, rd_nat, List.getD_eq_getElem?_getD, List.getD_eq_getElem?_getD, List.getElem?_map]
  by_cases hi : i < l.length
  · rw [List.getElem?_eq_getElem hi]
    simp only [Option.map_some, Option.getD_some]
    have := h _ (List.getElem_mem hi)
    rw [UInt8.toNat_ofNat']; omega
  · rw [List.getElem?_eq_none (by omega)]; rfl
theorem str_cut (l : List Int) (a b : Nat) : (strOfNums l).extract a b = strOfNums ((l.take b).drop a) := by
  apply toList_inj
  rw [toList_data, toList_data, strOfNums_data, ByteArray.data_extract, Array.toList_extract, List.extract_eq_take_drop, strOfNums_data, List.map_drop, List.map_take, List.drop_take]
theorem str_size (l : List Int) : (strOfNums l).size = l.length := strOfNums_size l

/-! ### the number of a row of bytes, high byte first -/
def num (l : List Int) : Int := l.foldl (fun n c => n * 256 + c) 0
theorem num_snoc (l : List Int) (c : Int) : num (l ++ [c]) = num l * 256 + c := by simp [num]
theorem num_take (l : List Int) (i : Nat) (h : i < l.length) : num (l.take (i + 1)) = num (l.take i) * 256 + l[i] := by
  rw [List.take_succ_eq_append_getElem h, num_snoc]
theorem num_0 {l : List Int} (h : Bytes l) : ∀ i, i ≤ l.length → 0 ≤ num (l.take i) ∧ num (l.take i) < 256 ^ i := by
  intro i
  induction i with
  | zero => intro _; rw [List.take_zero]; exact ⟨by decide, by decide⟩
  | succ i ih =>
    intro hi
    have h1 := ih (by omega)
    have h2 := h _ (List.getElem_mem (show i < l.length by omega))
    rw [num_take l i (by omega), Int.pow_succ]
    omega
theorem num_6 {l : List Int} (h : Bytes l) (i : Nat) (hi : i ≤ l.length) (h7 : i ≤ 6) : 0 ≤ num (l.take i) ∧ num (l.take i) < 281474976710656 := by
  have h1 := num_0 h i hi
  rcases (show i = 0 ∨ i = 1 ∨ i = 2 ∨ i = 3 ∨ i = 4 ∨ i = 5 ∨ i = 6 by omega) with e | e | e | e | e | e | e <;> rw [e] at h1 ⊢ <;> omega
theorem num_lt {l : List Int} (h : Bytes l) (n : Nat) (hn : l.length = n) : 0 ≤ num l ∧ num l < 256 ^ n := by
  have := num_0 h l.length (Nat.le_refl _)
  rw [List.take_length] at this; rw [hn] at this; exact this

/-! ### a row copied, two rows compared -/
theorem toByteS_l0 (l : List Int) (hl : l.length ≤ 1048576) (d : Nat) : ∀ (i : Nat) (x : List Int), i + d = l.length → x.length = l.length → (∀ j, j < i → x[j]? = l[j]?) → Ev (fun k => laws_toByteS.l0 k l x (i : Int)) l := by
  induction d with
  | zero =>
    intro i x hi hx hj
    have hxl : x = l := by
      apply List.ext_getElem?
      intro j
      by_cases h : j < i
      · exact hj j h
      · rw [List.getElem?_eq_none (by omega), List.getElem?_eq_none (by omega)]
    subst hxl
    refine Ev.step (f := fun _ => some x) (fun k => ?_) (Ev.now _)
    simp only [laws_toByteS.l0]; rw [if_neg (by omega)]
  | succ d ih =>
    intro i x hi hx hj
    have hw : wrap64 ((i : Int) + 1) = ((i + 1 : Nat) : Int) := by rw [wrap64_id (by omega) (by omega)]; omega
    refine Ev.step (f := fun k => laws_toByteS.l0 k l (x.set i (rd l i)) ((i + 1 : Nat) : Int)) (fun k => ?_) (ih (i + 1) _ (by omega) (by simpa using hx) ?_)
    · simp only [laws_toByteS.l0, hw]; rw [if_pos (by omega), if_pos (by omega), if_pos (by omega)]; rfl
    · intro j hji
      by_cases h : j = i
      · subst h
        rw [List.getElem?_set_self (by omega), rd_nat, List.getD_eq_getElem?_getD, List.getElem?_eq_getElem (by omega)]; rfl
      · rw [List.getElem?_set_ne (by omega)]; exact hj j (by omega)
theorem toByteS_ev (l : List Int) (hl : l.length ≤ 1048576) : Ev (fun k => laws_toByteS.f k l) l := by
  refine Ev.congr (f := fun k => laws_toByteS.l0 k l (List.replicate l.length 0) ((0 : Nat) : Int)) (fun k => ?_) (toByteS_l0 l hl l.length 0 _ (by omega) (by simp) (fun j hj => by omega))
  unfold laws_toByteS.f
  rw [if_pos (by omega), if_pos (by omega)]; rfl
theorem eqByteS_l0 (l : List Int) (hl : l.length ≤ 1048576) (d : Nat) : ∀ (i : Nat), i + d = l.length → Ev (fun k => laws_eqByteS.l0 k l l (i : Int)) true := by
  induction d with
  | zero =>
    intro i hi
    refine Ev.step (f := fun _ => some true) (fun k => ?_) (Ev.now _)
    simp only [laws_eqByteS.l0]; rw [if_neg (by omega)]
  | succ d ih =>
    intro i hi
    have hw : wrap64 ((i : Int) + 1) = ((i + 1 : Nat) : Int) := by rw [wrap64_id (by omega) (by omega)]; omega
    refine Ev.step (f := fun k => laws_eqByteS.l0 k l l ((i + 1 : Nat) : Int)) (fun k => ?_) (ih (i + 1) (by omega))
    simp only [laws_eqByteS.l0, hw]; rw [if_pos (by omega), if_pos (by omega), if_pos (by omega), if_pos trivial]
theorem eqByteS_ev (l : List Int) (hl : l.length ≤ 1048576) : Ev (fun k => laws_eqByteS.f k l l) true := by
  refine Ev.congr (f := fun k => laws_eqByteS.l0 k l l ((0 : Nat) : Int)) (fun k => ?_) (eqByteS_l0 l hl l.length 0 (by omega))
  unfold laws_eqByteS.f
  rw [if_pos rfl]; rfl

/-! ### the program's and the reference's number of bytes -/
theorem impl_num_l0 (l : List Int) (h : Bytes l) (h7 : l.length ≤ 7) (d : Nat) : ∀ i, i + d = l.length → Ev (fun k => impl_num.l0 k (num (l.take i)) l (l.length : Int) (i : Int)) (num l) := by
  induction d with
  | zero =>
    intro i hi
    refine Ev.step (f := fun _ => some (num l)) (fun k => ?_) (Ev.now _)
    simp only [impl_num.l0]; rw [if_neg (by omega), List.take_of_length_le (by omega)]
  | succ d ih =>
    intro i hi
    have hw : wrap64 ((i : Int) + 1) = ((i + 1 : Nat) : Int) := by rw [wrap64_id (by omega) (by omega)]; omega
    have h1 := num_6 h i (by omega) (by omega)
    have h2 := h _ (List.getElem_mem (show i < l.length by omega))
    have h3 := num_take l i (by omega)
    refine Ev.step (fun k => ?_) (ih (i + 1) (by omega))
    simp only [impl_num.l0, hw, rd_at l i (by omega)]
    rw [if_pos (by omega), if_pos (by omega), if_pos (by omega), h3, wrap64_id (x := num (l.take i) * 256) (by omega) (by omega), wrap64_id (x := l[i]) (by omega) (by omega), wrap64_id (by omega) (by omega)]
theorem impl_num_ev (l : List Int) (h : Bytes l) (h7 : l.length ≤ 7) : Ev (fun k => impl_num.f k l) (num l) :=
  impl_num_l0 l h h7 l.length 0 (by omega)
theorem spec_of_l0 (l : List Int) (h : Bytes l) (h7 : l.length ≤ 7) (d : Nat) : ∀ i, i + d = l.length → Ev (fun k => spec_l01Of.l0 k (strOfNums l) (num (l.take i)) (i : Int)) (num l) := by
  induction d with
  | zero =>
    intro i hi
    refine Ev.step (f := fun _ => some (num l)) (fun k => ?_) (Ev.now _)
    simp only [spec_l01Of.l0]; rw [if_neg (by rw [str_size]; omega), List.take_of_length_le (by omega)]
  | succ d ih =>
    intro i hi
    have hw : wrap64 ((i : Int) + 1) = ((i + 1 : Nat) : Int) := by rw [wrap64_id (by omega) (by omega)]; omega
    have h1 := num_6 h i (by omega) (by omega)
    have h2 := h _ (List.getElem_mem (show i < l.length by omega))
    have h3 := num_take l i (by omega)
    refine Ev.step (fun k => ?_) (ih (i + 1) (by omega))
    simp only [spec_l01Of.l0, hw, str_bt h, rd_at l i (by omega)]
    rw [if_pos (by rw [str_size]; omega), if_pos (by omega), h3, wrap64_id (x := num (l.take i) * 256) (by omega) (by omega), wrap64_id (x := l[i]) (by omega) (by omega), wrap64_id (by omega) (by omega)]
theorem spec_of_ev (l : List Int) (h : Bytes l) (h7 : l.length ≤ 7) : Ev (fun k => spec_l01Of.f k (strOfNums l)) (num l) :=
  spec_of_l0 l h h7 l.length 0 (by omega)

-- SAYS: ReadArp: a row of 28 bytes with the right head is cut at the same places by both; what is refused is refused alike.
-- USES: Bytes Wire Num
abbrev Ar := Int × ByteArray × ByteArray × Int × Int × Int
theorem byte_of {x : Int} (h0 : 0 ≤ x) (h1 : x < 256) (n : UInt8) : UInt8.ofNat x.toNat = n ↔ x = (n.toNat : Int) := by
  constructor
  · intro h; rw [← h, UInt8.toNat_ofNat']; omega
  · intro h; subst h; simp
theorem six (l : List Int) (hl : l.length = 28) : ∃ a0 a1 a2 a3 a4 a5 a6 a7 m, l = a0 :: a1 :: a2 :: a3 :: a4 :: a5 :: a6 :: a7 :: m ∧ m.length = 20 := by
  match l, hl with
  | a0 :: a1 :: a2 :: a3 :: a4 :: a5 :: a6 :: a7 :: m, h => exact ⟨_, _, _, _, _, _, _, _, m, rfl, by simpa using h⟩
theorem readArp (l : List Int) (hB : Bytes l) (hl : l.length ≤ 65536) : ∃ r : Ar, Ev (fun k => spec_l02ReadArp.f k (strOfNums l)) r ∧ Ev (fun k => impl_readArp.f k l) r := by
  have hs : (strOfNums l).size = l.length := str_size l
  by_cases h1 : l.length = 28
  · have c0 : (strOfNums l).extract 0 6 = strOfNums (l.take 6) := by rw [str_cut, List.drop_zero]
    have c1 := str_cut l 6 8
    have c2 := str_cut l 14 18
    have c3 := str_cut l 24 28
    have c4 := str_cut l 8 14
    have c5 := str_cut l 18 24
    have n1 : ((l.take 8).drop 6).length = 2 := by rw [List.length_drop, List.length_take]; omega
    have n2 : ((l.take 18).drop 14).length = 4 := by rw [List.length_drop, List.length_take]; omega
    have n3 : ((l.take 28).drop 24).length = 4 := by rw [List.length_drop, List.length_take]; omega
    have b1 := bytes_drop (bytes_take hB 8) 6
    have b2 := bytes_drop (bytes_take hB 18) 14
    have b3 := bytes_drop (bytes_take hB 28) 24
    have N2 := num_lt b2 4 n2
    have N3 := num_lt b3 4 n3
    have S1 := spec_of_ev _ b1 (by omega)
    have S2 := spec_of_ev _ b2 (by omega)
    have S3 := spec_of_ev _ b3 (by omega)
    have I2 := impl_num_ev _ b2 (by omega)
    have I3 := impl_num_ev _ b3 (by omega)
    have z1 : (strOfNums ((l.take 14).drop 8)).size = 6 := by rw [str_size, List.length_drop, List.length_take]; omega
    have z2 : (strOfNums ((l.take 24).drop 18)).size = 6 := by rw [str_size, List.length_drop, List.length_take]; omega
    -- what stands ahead
    have head : (strOfNums (l.take 7)).toList = ([0, 1, 8, 0, 6, 4, 0] : List UInt8) ↔ (strOfNums (l.take 6)).toList = ([0, 1, 8, 0, 6, 4] : List UInt8) ∧ rd l 6 = 0 := by
      obtain ⟨a0, a1, a2, a3, a4, a5, a6, a7, m, rfl, _⟩ := six l h1
      have g6 := hB a6 (by simp)
      simp only [toList_data, strOfNums_data, List.take_succ_cons, List.take_zero, List.map_cons, List.map_nil, List.cons.injEq, and_true]
      rw [byte_of g6.1 g6.2]
      simp only [rd, show (6 : Int).toNat = 6 from rfl, List.getD_cons_succ, List.getD_cons_zero]
      constructor
      · rintro ⟨p0, p1, p2, p3, p4, p5, p6⟩; exact ⟨⟨p0, p1, p2, p3, p4, p5⟩, p6⟩
      · rintro ⟨⟨p0, p1, p2, p3, p4, p5⟩, p6⟩; exact ⟨p0, p1, p2, p3, p4, p5, p6⟩
    have op : num ((l.take 8).drop 6) = rd l 6 * 256 + rd l 7 := by
      obtain ⟨a0, a1, a2, a3, a4, a5, a6, a7, m, rfl, _⟩ := six l h1
      simp [num, rd]
    have r6 := rd_byte hB 6
    have r7 := rd_byte hB 7
    simp only [show ((6 : Nat) : Int) = 6 from rfl, show ((7 : Nat) : Int) = 7 from rfl] at r6 r7
    have w7 : wrap64 (rd l 7) = rd l 7 := wrap64_id (by omega) (by omega)
    -- the reference, past its head
    have hS : ∀ r : Ar, ((strOfNums (l.take 6)).toList = ([0, 1, 8, 0, 6, 4] : List UInt8) → r = if 1 ≤ num ((l.take 8).drop 6) ∧ num ((l.take 8).drop 6) ≤ 2 then (num ((l.take 8).drop 6), strOfNums ((l.take 14).drop 8), strOfNums ((l.take 24).drop 18), num ((l.take 18).drop 14), num ((l.take 28).drop 24), 0) else (0, ⟨#[]⟩, ⟨#[]⟩, 0, 0, 3)) → (¬ (strOfNums (l.take 6)).toList = ([0, 1, 8, 0, 6, 4] : List UInt8) → r = (0, ⟨#[]⟩, ⟨#[]⟩, 0, 0, 3)) → Ev (fun k => spec_l02ReadArp.f k (strOfNums l)) r := by
      intro r hy hn
      refine Ev.congr (f := fun k => spec_l02ReadArp.j0 k (strOfNums l) ((strOfNums (l.take 6)).toList != ([0, 1, 8, 0, 6, 4] : List UInt8))) (fun k => ?_) ?_
      · unfold spec_l02ReadArp.f
        rw [hs, if_pos (by omega), if_pos (by decide), if_pos (by omega), c0]
      · by_cases hh : (strOfNums (l.take 6)).toList = ([0, 1, 8, 0, 6, 4] : List UInt8)
        · rw [hy hh, hh]
          refine Ev.step (f := fun k => (spec_l01Of.f k (strOfNums ((l.take 8).drop 6))).bind fun t225 => (spec_l01Of.f k (strOfNums ((l.take 18).drop 14))).bind fun t226 => (spec_l01Of.f k (strOfNums ((l.take 28).drop 24))).bind fun t227 => (spec_l02Arp.f t225 (strOfNums ((l.take 14).drop 8)) (strOfNums ((l.take 24).drop 18)) t226 t227).bind fun t229 => if t229 = true then some (t225, strOfNums ((l.take 14).drop 8), strOfNums ((l.take 24).drop 18), t226, t227, 0) else some (0, ⟨#[]⟩, ⟨#[]⟩, 0, 0, 3)) (fun k => ?_) (Ev.bind S1 (Ev.bind S2 (Ev.bind S3 ?_)))
          · simp only [spec_l02ReadArp.j0, hs, c1, c2, c3, c4, c5, h1, show ((28 : Nat) : Int) = 28 from rfl, Int.reduceLE, Nat.reduceLeDiff, if_true, bne_self_eq_false, Bool.false_eq_true, if_false]
          · refine Ev.congr (fun k => ?_) (Ev.now _)
            simp only [spec_l02Arp.f, spec_l01Mac.f, spec_l01Ip.f, spec_l01In.f, z1, z2, Option.bind_some]
            have g2 : num ((l.take 18).drop 14) ≤ 4294967295 := by omega
            have g3 : num ((l.take 28).drop 24) ≤ 4294967295 := by omega
            by_cases q1 : 1 ≤ num ((l.take 8).drop 6)
            · by_cases q2 : num ((l.take 8).drop 6) ≤ 2
              · simp [q1, q2, N2.1, N3.1, g2, g3]
              · simp [q1, q2]
            · simp [q1]
        · rw [hn hh]
          refine Ev.step (fun k => ?_) (Ev.now _)
          simp only [spec_l02ReadArp.j0]; rw [if_pos (by simp [hh])]
    by_cases hh : (strOfNums (l.take 7)).toList = ([0, 1, 8, 0, 6, 4, 0] : List UInt8)
    · have hh' := head.1 hh
      have e7 : num ((l.take 8).drop 6) = rd l 7 := by rw [op]; omega
      by_cases q : 1 ≤ rd l 7 ∧ rd l 7 ≤ 2
      · refine ⟨_, hS (rd l 7, strOfNums ((l.take 14).drop 8), strOfNums ((l.take 24).drop 18), num ((l.take 18).drop 14), num ((l.take 28).drop 24), 0) (fun _ => ?_) (fun h => absurd hh'.1 h), ?_⟩
        · rw [e7, if_pos q]
        · refine Ev.congr (f := fun k => impl_readArp.j0 k l false) (fun k => ?_) ?_
          · unfold impl_readArp.f impl_within.f
            rw [if_pos (by omega), if_pos (by omega), if_pos hh, if_pos (by omega), w7, if_pos q.1, decide_eq_true q.2]; rfl
          · refine Ev.step (f := fun k => (impl_num.f k ((l.take 18).drop 14)).bind fun t245 => (impl_num.f k ((l.take 28).drop 24)).bind fun t247 => some (wrap64 (rd l 7), strOfNums ((l.take 14).drop 8), strOfNums ((l.take 24).drop 18), t245, t247, 0)) (fun k => ?_) (Ev.bind I2 (Ev.bind I3 ?_))
            · simp only [impl_readArp.j0]
              simp only [h1, show ((28 : Nat) : Int) = 28 from rfl, Int.reduceLE, Int.reduceLT, Nat.reduceLeDiff, if_true, Bool.false_eq_true, if_false]
            · rw [w7]; exact Ev.now _
      · refine ⟨_, hS (0, ⟨#[]⟩, ⟨#[]⟩, 0, 0, 3) (fun _ => ?_) (fun _ => rfl), ?_⟩
        · rw [e7, if_neg q]
        · refine Ev.congr (f := fun k => impl_readArp.j0 k l true) (fun k => ?_) (Ev.step (fun k => ?_) (Ev.now _))
          · unfold impl_readArp.f impl_within.f
            rw [if_pos (by omega), if_pos (by omega), if_pos hh, if_pos (by omega), w7]
            by_cases q1 : rd l 7 ≥ 1
            · rw [if_pos q1, decide_eq_false (by omega)]; rfl
            · rw [if_neg q1]; rfl
          · simp only [impl_readArp.j0]; rw [if_pos (by decide)]
    · refine ⟨_, hS (0, ⟨#[]⟩, ⟨#[]⟩, 0, 0, 3) (fun h => ?_) (fun _ => rfl), ?_⟩
      · have : ¬ rd l 6 = 0 := fun h6 => hh (head.2 ⟨h, h6⟩)
        rw [op, if_neg (by omega)]
      · refine Ev.congr (f := fun k => impl_readArp.j0 k l true) (fun k => ?_) (Ev.step (fun k => ?_) (Ev.now _))
        · unfold impl_readArp.f
          rw [if_pos (by omega), if_pos (by omega), if_neg hh]
        · simp only [impl_readArp.j0]; rw [if_pos (by decide)]
  · refine ⟨(0, ⟨#[]⟩, ⟨#[]⟩, 0, 0, 3), ?_, ?_⟩
    · refine Ev.congr (f := fun k => spec_l02ReadArp.j0 k (strOfNums l) true) (fun k => ?_) (Ev.step (fun k => ?_) (Ev.now _))
      · unfold spec_l02ReadArp.f
        rw [hs, if_neg (by omega)]
      · simp only [spec_l02ReadArp.j0]; rw [if_pos (by decide)]
    · refine Ev.congr (f := fun k => impl_readArp.j0 k l true) (fun k => ?_) (Ev.step (fun k => ?_) (Ev.now _))
      · unfold impl_readArp.f
        rw [if_neg (by omega)]
      · simp only [impl_readArp.j0]; rw [if_pos (by decide)]
theorem FnExactReadArp : laws_FnExactReadArp.Pure := by
  intro l _ _ hb
  apply Ev.rounds
  by_cases h0 : (l.length : Int) > 1048576
  · refine Ev.congr (fun k => ?_) (Ev.now true)
    unfold laws_FnExactReadArp.f; rw [if_pos h0]
  · have hT := toByteS_ev l (by omega)
    have hE := eqByteS_ev l (by omega)
    have hB := bytes_wf hb
    have key : ∃ r : Ar, Ev (fun k => spec_ReadArp.f k l) r ∧ Ev (fun k => impl_ReadArp.f k l) r := by
      by_cases h1 : (l.length : Int) > 65536
      · exact ⟨_, Ev.congr (fun k => by unfold spec_ReadArp.f; rw [if_pos h1]) (Ev.now _), Ev.congr (fun k => by unfold impl_ReadArp.f; rw [if_pos h1]) (Ev.now _)⟩
      · obtain ⟨⟨r1, r2, r3, r4, r5, r6⟩, hS, hI⟩ := readArp l hB (by omega)
        refine ⟨(r1, r2, r3, r4, r5, r6), Ev.congr (fun k => by unfold spec_ReadArp.f; rw [if_neg h1]) (Ev.bind hS (Ev.now _)), Ev.congr (fun k => by unfold impl_ReadArp.f; rw [if_neg h1]) (Ev.bind hI (Ev.now _))⟩
    obtain ⟨⟨r1, r2, r3, r4, r5, r6⟩, hS, hI⟩ := key
    refine Ev.congr (fun k => by unfold laws_FnExactReadArp.f; rw [if_neg h0]) ?_
    refine Ev.bind hT (Ev.bind hS (Ev.bind hT (Ev.bind hI ?_)))
    simp only [laws_eqArp.f, if_true, bne_self_eq_false, Option.bind_some]
    refine Ev.step (fun k => by simp only [laws_FnExactReadArp.j0]; rw [if_neg (by decide)]) ?_
    refine Ev.bind hT (Ev.bind hE (Ev.now _))

end Go.Proofs.Ytohlocmdpdghiaa.Pure
