/- ReadDhcp: the program reads the options first and the numbers then, the reference the numbers first; both come to the same, for the numbers of four bytes are never refused. -/
import Derived.Test.YtohlocmdpdghiaaPRdx5
import Derived.Test.YtohlocmdpdghiaaBase
set_option linter.unusedSimpArgs false
set_option linter.unusedVariables false
namespace Go.Proofs.Ytohlocmdpdghiaa.Pure
open Go.RowKit Go.Proofs.Ytohlocmdpdghiaa.PRd Go.Proofs.YtohlocmdpdghiaaW.PrintWords Go.Proofs.YtohlocmdpdghiaaW.PrintLast Go.Proofs.YtohlocmdpdghiaaW.PrintMore Base

/-! ### rows of bytes and the strings of them -/
def Bytes (l : List Int) : Prop := ∀ x ∈ l, 0 ≤ x ∧ x < 256
theorem bytes_wf {l : List Int} (h : ∀ x ∈ l, (Lit.int .u8 x).wf = true) : Bytes l := fun x hx => wf_u8 (h x hx)
theorem bytes_take {l : List Int} (h : Bytes l) (n : Nat) : Bytes (l.take n) := fun x hx => h x (List.mem_of_mem_take hx)
theorem bytes_drop {l : List Int} (h : Bytes l) (n : Nat) : Bytes (l.drop n) := fun x hx => h x (List.mem_of_mem_drop hx)
theorem rd_nat (l : List Int) (i : Nat) : rd l (i : Int) = l.getD i 0 := by simp [rd]
theorem rd_at (l : List Int) (i : Nat) (h : i < l.length) : rd l (i : Int) = l[i] := by
  rw [rd_nat, List.getD_eq_getElem?_getD, List.getElem?_eq_getElem h]; rfl
theorem rd_byte {l : List Int} (h : Bytes l) (i : Nat) : 0 ≤ rd l (i : Int) ∧ rd l (i : Int) < 256 := by
  by_cases hi : i < l.length
  · rw [rd_at l i hi]; exact h _ (List.getElem_mem hi)
  · rw [rd_nat, List.getD_eq_getElem?_getD, List.getElem?_eq_none (by omega)]; simp
theorem str_bt {l : List Int} (h : Bytes l) (i : Nat) : bt (strOfNums l) (i : Int) = rd l (i : Int) := by
  rw [bt_nat, strOfNums_data, rd_nat, List.getD_eq_getElem?_getD, List.getD_eq_getElem?_getD, List.getElem?_map]
  by_cases hi : i < l.length
  · rw [List.getElem?_eq_getElem hi]
    simp only [Option.map_some, Option.getD_some]
    have := h _ (List.getElem_mem hi)
    rw [UInt8.toNat_ofNat']; omega
  · rw [List.getElem?_eq_none (by omega)]; rfl
theorem str_cut (l : List Int) (a b : Nat) : (strOfNums l).extract a b = strOfNums ((l.take b).drop a) := by
  apply toList_inj
  rw [toList_data, toList_data, strOfNums_data, ByteArray.data_extract, Array.toList_extract, List.extract_eq_take_drop, strOfNums_data, List.map_drop, List.map_take, List.drop_take]
theorem str_size (l : List Int) : (strOfNums l).size = l.length := strOfNums_size l

/-! ### the number of a row of bytes, high byte first -/
def num (l : List Int) : Int := l.foldl (fun n c => n * 256 + c) 0
theorem num_snoc (l : List Int) (c : Int) : num (l ++ [c]) = num l * 256 + c := by simp [num]
theorem num_take (l : List Int) (i : Nat) (h : i < l.length) : num (l.take (i + 1)) = num (l.take i) * 256 + l[i] := by
  rw [List.take_succ_eq_append_getElem h, num_snoc]
theorem num_0 {l : List Int} (h : Bytes l) : ∀ i, i ≤ l.length → 0 ≤ num (l.take i) ∧ num (l.take i) < 256 ^ i := by
  intro i
  induction i with
  | zero => intro _; rw [List.take_zero]; exact ⟨by decide, by decide⟩
  | succ i ih =>
    intro hi
    have h1 := ih (by omega)
    have h2 := h _ (List.getElem_mem (show i < l.length by omega))
    rw [num_take l i (by omega), Int.pow_succ]
    omega
theorem num_6 {l : List Int} (h : Bytes l) (i : Nat) (hi : i ≤ l.length) (h7 : i ≤ 6) : 0 ≤ num (l.take i) ∧ num (l.take i) < 281474976710656 := by
  have h1 := num_0 h i hi
  rcases (show i = 0 ∨ i = 1 ∨ i = 2 ∨ i = 3 ∨ i = 4 ∨ i = 5 ∨ i = 6 by omega) with e | e | e | e | e | e | e <;> rw [e] at h1 ⊢ <;> omega
theorem num_lt {l : List Int} (h : Bytes l) (n : Nat) (hn : l.length = n) : 0 ≤ num l ∧ num l < 256 ^ n := by
  have := num_0 h l.length (Nat.le_refl _)
  rw [List.take_length] at this; rw [hn] at this; exact this

/-! ### a row copied, two rows compared -/
theorem toByteS_l0 (l : List Int) (hl : l.length ≤ 1048576) (d : Nat) : ∀ (i : Nat) (x : List Int), i + d = l.length → x.length = l.length → (∀ j, j < i → x[j]? = l[j]?) → Ev (fun k => laws_toByteS.l0 k l x (i : Int)) l := by
  induction d with
  | zero =>
    intro i x hi hx hj
    have hxl : x = l := by
      apply List.ext_getElem?
      intro j
      by_cases h : j < i
      · exact hj j h
      · rw [List.getElem?_eq_none (by omega), List.getElem?_eq_none (by omega)]
    subst hxl
    refine Ev.step (f := fun _ => some x) (fun k => ?_) (Ev.now _)
    simp only [laws_toByteS.l0]; rw [if_neg (by omega)]
  | succ d ih =>
    intro i x hi hx hj
    have hw : wrap64 ((i : Int) + 1) = ((i + 1 : Nat) : Int) := by rw [wrap64_id (by omega) (by omega)]; omega
    refine Ev.step (f := fun k => laws_toByteS.l0 k l (x.set i (rd l i)) ((i + 1 : Nat) : Int)) (fun k => ?_) (ih (i + 1) _ (by omega) (by simpa using hx) ?_)
    · simp only [laws_toByteS.l0, hw]; rw [if_pos (by omega), if_pos (by omega), if_pos (by omega)]; rfl
    · intro j hji
      by_cases h : j = i
      · subst h
        rw [List.getElem?_set_self (by omega), rd_nat, List.getD_eq_getElem?_getD, List.getElem?_eq_getElem (by omega)]; rfl
      · rw [List.getElem?_set_ne (by omega)]; exact hj j (by omega)
theorem toByteS_ev (l : List Int) (hl : l.length ≤ 1048576) : Ev (fun k => laws_toByteS.f k l) l := by
  refine Ev.congr (f := fun k => laws_toByteS.l0 k l (List.replicate l.length 0) ((0 : Nat) : Int)) (fun k => ?_) (toByteS_l0 l hl l.length 0 _ (by omega) (by simp) (fun j hj => by omega))
  unfold laws_toByteS.f
  rw [if_pos (by omega), if_pos (by omega)]; rfl
theorem eqByteS_l0 (l : List Int) (hl : l.length ≤ 1048576) (d : Nat) : ∀ (i : Nat), i + d = l.length → Ev (fun k => laws_eqByteS.l0 k l l (i : Int)) true := by
  induction d with
  | zero =>
    intro i hi
    refine Ev.step (f := fun _ => some true) (fun k => ?_) (Ev.now _)
    simp only [laws_eqByteS.l0]; rw [if_neg (by omega)]
  | succ d ih =>
    intro i hi
    have hw : wrap64 ((i : Int) + 1) = ((i + 1 : Nat) : Int) := by rw [wrap64_id (by omega) (by omega)]; omega
    refine Ev.step (f := fun k => laws_eqByteS.l0 k l l ((i + 1 : Nat) : Int)) (fun k => ?_) (ih (i + 1) (by omega))
    simp only [laws_eqByteS.l0, hw]; rw [if_pos (by omega), if_pos (by omega), if_pos (by omega), if_pos trivial]
theorem eqByteS_ev (l : List Int) (hl : l.length ≤ 1048576) : Ev (fun k => laws_eqByteS.f k l l) true := by
  refine Ev.congr (f := fun k => laws_eqByteS.l0 k l l ((0 : Nat) : Int)) (fun k => ?_) (eqByteS_l0 l hl l.length 0 (by omega))
  unfold laws_eqByteS.f
  rw [if_pos rfl]; rfl

/-! ### the program's and the reference's number of bytes -/
theorem impl_num_l0 (l : List Int) (h : Bytes l) (h7 : l.length ≤ 7) (d : Nat) : ∀ i, i + d = l.length → Ev (fun k => impl_num.l0 k (num (l.take i)) l (l.length : Int) (i : Int)) (num l) := by
  induction d with
  | zero =>
    intro i hi
    refine Ev.step (f := fun _ => some (num l)) (fun k => ?_) (Ev.now _)
    simp only [impl_num.l0]; rw [if_neg (by omega), List.take_of_length_le (by omega)]
  | succ d ih =>
    intro i hi
    have hw : wrap64 ((i : Int) + 1) = ((i + 1 : Nat) : Int) := by rw [wrap64_id (by omega) (by omega)]; omega
    have h1 := num_6 h i (by omega) (by omega)
    have h2 := h _ (List.getElem_mem (show i < l.length by omega))
    have h3 := num_take l i (by omega)
    refine Ev.step (fun k => ?_) (ih (i + 1) (by omega))
    simp only [impl_num.l0, hw, rd_at l i (by omega)]
    rw [if_pos (by omega), if_pos (by omega), if_pos (by omega), h3, wrap64_id (x := num (l.take i) * 256) (by omega) (by omega), wrap64_id (x := l[i]) (by omega) (by omega), wrap64_id (by omega) (by omega)]
theorem impl_num_ev (l : List Int) (h : Bytes l) (h7 : l.length ≤ 7) : Ev (fun k => impl_num.f k l) (num l) :=
  impl_num_l0 l h h7 l.length 0 (by omega)
theorem spec_of_l0 (l : List Int) (h : Bytes l) (h7 : l.length ≤ 7) (d : Nat) : ∀ i, i + d = l.length → Ev (fun k => spec_l01Of.l0 k (strOfNums l) (num (l.take i)) (i : Int)) (num l) := by
  induction d with
  | zero =>
    intro i hi
    refine Ev.step (f := fun _ => some (num l)) (fun k => ?_) (Ev.now _)
    simp only [spec_l01Of.l0]; rw [if_neg (by rw [str_size]; omega), List.take_of_length_le (by omega)]
  | succ d ih =>
    intro i hi
    have hw : wrap64 ((i : Int) + 1) = ((i + 1 : Nat) : Int) := by rw [wrap64_id (by omega) (by omega)]; omega
    have h1 := num_6 h i (by omega) (by omega)
    have h2 := h _ (List.getElem_mem (show i < l.length by omega))
    have h3 := num_take l i (by omega)
    refine Ev.step (fun k => ?_) (ih (i + 1) (by omega))
    simp only [spec_l01Of.l0, hw, str_bt h, rd_at l i (by omega)]
    rw [if_pos (by rw [str_size]; omega), if_pos (by omega), h3, wrap64_id (x := num (l.take i) * 256) (by omega) (by omega), wrap64_id (x := l[i]) (by omega) (by omega), wrap64_id (by omega) (by omega)]
theorem spec_of_ev (l : List Int) (h : Bytes l) (h7 : l.length ≤ 7) : Ev (fun k => spec_l01Of.f k (strOfNums l)) (num l) :=
  spec_of_l0 l h h7 l.length 0 (by omega)

-- SAYS: ReadDhcp: the program reads the options first and the numbers then, the reference the numbers first; both come to the same, for the numbers of four bytes are never refused.
-- USES: Bytes Wire Num
abbrev Dh := Int × Int × Int × Bool × ByteArray × Int
abbrev noDh : Dh := (0, 0, 0, false, ⟨#[]⟩, 3)
def fin (X Y : Int) (B : Bool) (M : ByteArray) (kd : Int) (ok : Bool) : Dh := if ok = true ∧ 1 ≤ kd ∧ kd ≤ 8 then (X, Y, kd, B, M, 0) else noDh
theorem wr (x y : Int) (h1 : -1000000 ≤ x) (h2 : x ≤ 1000000) (h : x = y) : wrap64 x = y := by rw [← h]; exact wrap64_id (by omega) (by omega)
set_option maxHeartbeats 600000 in
theorem options (l : List Int) (hB : Bytes l) (hl : 240 ≤ l.length) (hl2 : l.length ≤ 65536) (X Y : Int) (hX : 0 ≤ X ∧ X ≤ 4294967295) (hY : 0 ≤ Y ∧ Y ≤ 4294967295) (B : Bool) (M : ByteArray) (hM : M.size = 6) (d : Nat) :
    ∀ (i : Nat) (kind : Int), i ≤ l.length - 240 → l.length - 240 - i ≤ d → 0 ≤ kind → kind ≤ 255 → ∃ kd ok, 0 ≤ kd ∧ kd ≤ 255 ∧ Ev (fun k => impl_dhcpOptions.l0 k (l.drop 240) kind (i : Int)) (kd, ok) ∧ Ev (fun k => spec_l03ReadDhcp.l0 k (strOfNums l) ((240 + i : Nat) : Int) X Y kind B M) (fin X Y B M kd ok) := by
  have hs : (strOfNums l).size = l.length := str_size l
  have hm : (l.drop 240).length = l.length - 240 := by rw [List.length_drop]
  have hr : ∀ j : Nat, rd (l.drop 240) (j : Int) = rd l ((240 + j : Nat) : Int) := fun j => by rw [rd_nat, rd_nat, List.getD_eq_getElem?_getD, List.getD_eq_getElem?_getD, List.getElem?_drop]
  have hno : ∀ kd, fin X Y B M kd false = noDh := fun kd => by unfold fin; rw [if_neg (by simp)]
  have hdone : ∀ kind k, ((spec_l03Dhcp.f X Y kind B M).bind fun t => if t = true then some ((X, Y, kind, B, M, 0) : Dh) else some noDh) = some (fin X Y B M kind true) ∧ k = k := fun kind (k : Nat) => by
    refine ⟨?_, rfl⟩
    simp only [spec_l03Dhcp.f, spec_l01Ip.f, spec_l01In.f, spec_l01Mac.f, hM, hX.1, hX.2, hY.1, hY.2, if_true, decide_true, Option.bind_some]
    unfold fin
    by_cases h1 : 1 ≤ kind
    · by_cases h2 : kind ≤ 8
      · simp [h1, h2]
      · simp [h1, h2]
    · simp [h1]
  induction d with
  | zero =>
    intro i kind hi hd _ _
    refine ⟨0, false, by omega, by omega, Ev.step (fun k => ?_) (Ev.now _), Ev.step (fun k => ?_) (Ev.now _)⟩
    · simp only [impl_dhcpOptions.l0]; rw [if_neg (by omega)]
    · simp only [spec_l03ReadDhcp.l0, hs]; rw [if_pos (by omega), hno]
  | succ d ih =>
    intro i kind hi hd k0 k1
    by_cases hend : i = l.length - 240
    · refine ⟨0, false, by omega, by omega, Ev.step (fun k => ?_) (Ev.now _), Ev.step (fun k => ?_) (Ev.now _)⟩
      · simp only [impl_dhcpOptions.l0]; rw [if_neg (by omega)]
      · simp only [spec_l03ReadDhcp.l0, hs]; rw [if_pos (by omega), hno]
    · obtain ⟨a, ha⟩ : ∃ a : Int, Aside0 (rd l ((240 + i : Nat) : Int) = a) := ⟨_, ⟨rfl⟩⟩
      obtain ⟨b, hb⟩ : ∃ b : Int, Aside0 (rd l ((240 + i + 1 : Nat) : Int) = b) := ⟨_, ⟨rfl⟩⟩
      obtain ⟨c, hc⟩ : ∃ c : Int, Aside0 (rd l ((240 + i + 2 : Nat) : Int) = c) := ⟨_, ⟨rfl⟩⟩
      have ra : 0 ≤ a ∧ a < 256 := ha.out ▸ rd_byte hB (240 + i)
      have rb : 0 ≤ b ∧ b < 256 := hb.out ▸ rd_byte hB (240 + i + 1)
      have rc : 0 ≤ c ∧ c < 256 := hc.out ▸ rd_byte hB (240 + i + 2)
      have sa_ : Aside0 (bt (strOfNums l) ((240 + i : Nat) : Int) = a) := ⟨(str_bt hB (240 + i)).trans ha.out⟩
      have sb_ : Aside0 (bt (strOfNums l) ((240 + i + 1 : Nat) : Int) = b) := ⟨(str_bt hB (240 + i + 1)).trans hb.out⟩
      have sc_ : Aside0 (bt (strOfNums l) ((240 + i + 2 : Nat) : Int) = c) := ⟨(str_bt hB (240 + i + 2)).trans hc.out⟩
      have ia_ : Aside0 (rd (l.drop 240) (i : Int) = a) := ⟨(hr i).trans ha.out⟩
      have ib_ : Aside0 (rd (l.drop 240) ((i + 1 : Nat) : Int) = b) := ⟨(hr (i + 1)).trans hb.out⟩
      have ic_ : Aside0 (rd (l.drop 240) ((i + 2 : Nat) : Int) = c) := ⟨(hr (i + 2)).trans hc.out⟩
      clear ha hb hc
      have wi1_ : Aside0 (wrap64 ((i : Int) + 1) = ((i + 1 : Nat) : Int)) := ⟨wr _ _ (by omega) (by omega) (by omega)⟩
      have wi2_ : Aside0 (wrap64 ((i : Int) + 2) = ((i + 2 : Nat) : Int)) := ⟨wr _ _ (by omega) (by omega) (by omega)⟩
      have ws1_ : Aside0 (wrap64 (((240 + i : Nat) : Int) + 1) = ((240 + i + 1 : Nat) : Int)) := ⟨wr _ _ (by omega) (by omega) (by omega)⟩
      have ws2_ : Aside0 (wrap64 (((240 + i + 1 : Nat) : Int) + 1) = ((240 + i + 2 : Nat) : Int)) := ⟨wr _ _ (by omega) (by omega) (by omega)⟩
      have wb_ : Aside0 (wrap64 b = b) := ⟨wr _ _ (by omega) (by omega) rfl⟩
      have wc_ : Aside0 (wrap64 c = c) := ⟨wr _ _ (by omega) (by omega) rfl⟩
      have wl_ : Aside0 (wrap64 (wrap64 ((((l.length - 240 : Nat) : Int)) - (i : Int)) - 2) = ((l.length - 240 : Nat) : Int) - i - 2) := ⟨by
        rw [wr (((l.length - 240 : Nat) : Int) - (i : Int)) _ (by omega) (by omega) rfl]; exact wr _ _ (by omega) (by omega) rfl⟩
      have w2b_ : Aside0 (wrap64 (((240 + i + 2 : Nat) : Int) + b) = ((240 + i + 2 : Nat) : Int) + b) := ⟨wr _ _ (by omega) (by omega) rfl⟩
      obtain ⟨n, hn⟩ : ∃ n : Nat, b = n := ⟨b.toNat, by omega⟩
      have wnext_ : Aside0 (wrap64 ((i : Int) + wrap64 (2 + b)) = ((i + 2 + n : Nat) : Int)) := ⟨by
        rw [wr (2 + b) _ (by omega) (by omega) rfl]; exact wr _ _ (by omega) (by omega) (by omega)⟩
      have wsnext_ : Aside0 (wrap64 (((240 + i + 1 : Nat) : Int) + wrap64 (1 + b)) = ((240 + (i + 2 + n) : Nat) : Int)) := ⟨by
        rw [wr (1 + b) _ (by omega) (by omega) rfl]; exact wr _ _ (by omega) (by omega) (by omega)⟩
      have pI : (i : Int) < ((l.length - 240 : Nat) : Int) := by omega
      have p0 : (0 : Int) ≤ (i : Int) := by omega
      have pS : ¬ (((240 + i : Nat) : Int) ≥ (l.length : Int)) := by omega
      have pS0 : (0 : Int) ≤ ((240 + i : Nat) : Int) := by omega
      have pS' : ((240 + i : Nat) : Int) < (l.length : Int) := by omega
      by_cases a0 : a = 0
      · obtain ⟨kd, ok, g0, g1, hI, hS⟩ := ih (i + 1) kind (by omega) (by omega) k0 k1
        refine ⟨kd, ok, g0, g1, Ev.step (fun k => ?_) hI, Ev.step (fun k => ?_) hS⟩
        · simp only [impl_dhcpOptions.l0, hm, ia_.out, wi1_.out]; rw [if_pos pI, if_pos p0, if_pos a0]
        · simp only [spec_l03ReadDhcp.l0, hs, sa_.out, ws1_.out]; rw [if_neg pS, if_pos pS0, if_pos pS', if_neg (by omega), if_pos a0]; rfl
      · by_cases a255 : a = 255
        · refine ⟨kind, true, k0, k1, Ev.step (fun k => ?_) (Ev.now _), Ev.step (fun k => ?_) (Ev.now _)⟩
          · simp only [impl_dhcpOptions.l0, hm, ia_.out, wi1_.out]; rw [if_pos pI, if_pos p0, if_neg a0, if_pos a255]
          · simp only [spec_l03ReadDhcp.l0, hs, sa_.out, ws1_.out]; rw [if_neg pS, if_pos pS0, if_pos pS', if_pos a255]; exact (hdone kind k).1
        · by_cases h1 : i + 1 ≥ l.length - 240
          · refine ⟨0, false, by omega, by omega, Ev.step (fun k => ?_) (Ev.now _), Ev.step (f := fun k => spec_l03ReadDhcp.j2 k (strOfNums l) ((240 + i + 1 : Nat) : Int) a true X Y kind B M) (fun k => ?_) (Ev.step (fun k => ?_) (Ev.now _))⟩
            · simp only [impl_dhcpOptions.l0, hm, ia_.out, wi1_.out]; rw [if_pos pI, if_pos p0, if_neg a0, if_neg a255, if_pos (by omega)]
            · simp only [spec_l03ReadDhcp.l0, hs, sa_.out, ws1_.out]; rw [if_neg pS, if_pos pS0, if_pos pS', if_neg a255, if_neg a0, if_pos (by omega)]
            · simp only [spec_l03ReadDhcp.j2]; rw [if_pos (by decide), hno]
          · have q1 : ¬ (((i + 1 : Nat) : Int) ≥ ((l.length - 240 : Nat) : Int)) := by omega
            have q2 : (0 : Int) ≤ ((i + 1 : Nat) : Int) := by omega
            have q3 : ((i + 1 : Nat) : Int) < ((l.length - 240 : Nat) : Int) := by omega
            have s1 : ¬ (((240 + i + 1 : Nat) : Int) ≥ (l.length : Int)) := by omega
            have s2 : (0 : Int) ≤ ((240 + i + 1 : Nat) : Int) := by omega
            have s3 : ((240 + i + 1 : Nat) : Int) < (l.length : Int) := by omega
            have toJ : ∀ q r, decide (((240 + i + 2 : Nat) : Int) + b > (l.length : Int)) = q → Ev (fun k => spec_l03ReadDhcp.j2 k (strOfNums l) ((240 + i + 1 : Nat) : Int) a q X Y kind B M) r → Ev (fun k => spec_l03ReadDhcp.l0 k (strOfNums l) ((240 + i : Nat) : Int) X Y kind B M) r := fun q r hq h => Ev.step (fun k => by
              simp only [spec_l03ReadDhcp.l0, hs, sa_.out, ws1_.out, sb_.out, ws2_.out, wb_.out, w2b_.out]; rw [if_neg pS, if_pos pS0, if_pos pS', if_neg a255, if_neg a0, if_neg s1, if_pos s2, if_pos s3, hq]) h
            by_cases h2 : b > ((l.length - 240 : Nat) : Int) - i - 2
            · refine ⟨0, false, by omega, by omega, Ev.step (fun k => ?_) (Ev.now _), toJ true _ (decide_eq_true (by omega)) (Ev.step (fun k => ?_) (Ev.now _))⟩
              · simp only [impl_dhcpOptions.l0, hm, ia_.out, wi1_.out, ib_.out, wb_.out, wl_.out]; rw [if_pos pI, if_pos p0, if_neg a0, if_neg a255, if_neg q1, if_pos q2, if_pos q3, if_pos h2]
              · simp only [spec_l03ReadDhcp.j2]; rw [if_pos (by decide), hno]
            · by_cases a53 : a = 53
              · by_cases b1 : b = 1
                · obtain ⟨kd, ok, g0, g1, hI, hS⟩ := ih (i + 2 + n) c (by omega) (by omega) rc.1 (by omega)
                  refine ⟨kd, ok, g0, g1, Ev.step (fun k => ?_) hI, toJ false _ (decide_eq_false (by omega)) (Ev.step (fun k => ?_) hS)⟩
                  · simp only [impl_dhcpOptions.l0, hm, ia_.out, wi1_.out, wi2_.out, ib_.out, ic_.out, wb_.out, wc_.out, wl_.out, wnext_.out]; rw [if_pos pI, if_pos p0, if_neg a0, if_neg a255, if_neg q1, if_pos q2, if_pos q3, if_neg h2, if_pos a53, if_pos b1, if_pos (by omega), if_pos (by omega)]
                  · simp only [spec_l03ReadDhcp.j2, hs, sb_.out, ws2_.out, sc_.out, wb_.out, wc_.out, wsnext_.out]; rw [if_neg (by decide), if_pos s2, if_pos s3, if_pos a53, if_pos b1, if_pos (by omega), if_pos (by omega)]
                · refine ⟨0, false, by omega, by omega, Ev.step (fun k => ?_) (Ev.now _), toJ false _ (decide_eq_false (by omega)) (Ev.step (fun k => ?_) (Ev.now _))⟩
                  · simp only [impl_dhcpOptions.l0, hm, ia_.out, wi1_.out, wi2_.out, ib_.out, ic_.out, wb_.out, wc_.out, wl_.out, wnext_.out]; rw [if_pos pI, if_pos p0, if_neg a0, if_neg a255, if_neg q1, if_pos q2, if_pos q3, if_neg h2, if_pos a53, if_neg b1]
                  · simp only [spec_l03ReadDhcp.j2, hs, sb_.out, ws2_.out, sc_.out, wb_.out, wc_.out, wsnext_.out]; rw [if_neg (by decide), if_pos s2, if_pos s3, if_pos a53, if_neg b1, hno]
              · obtain ⟨kd, ok, g0, g1, hI, hS⟩ := ih (i + 2 + n) kind (by omega) (by omega) k0 k1
                refine ⟨kd, ok, g0, g1, Ev.step (fun k => ?_) hI, toJ false _ (decide_eq_false (by omega)) (Ev.step (fun k => ?_) hS)⟩
                · simp only [impl_dhcpOptions.l0, hm, ia_.out, wi1_.out, wi2_.out, ib_.out, ic_.out, wb_.out, wc_.out, wl_.out, wnext_.out]; rw [if_pos pI, if_pos p0, if_neg a0, if_neg a255, if_neg q1, if_pos q2, if_pos q3, if_neg h2, if_neg a53]
                · simp only [spec_l03ReadDhcp.j2, hs, sb_.out, ws2_.out, sc_.out, wb_.out, wc_.out, wsnext_.out]; rw [if_neg (by decide), if_pos s2, if_pos s3, if_neg a53]
theorem byte_of {x : Int} (h0 : 0 ≤ x) (h1 : x < 256) (n : UInt8) : UInt8.ofNat x.toNat = n ↔ x = (n.toNat : Int) := by
  constructor
  · intro h; rw [← h, UInt8.toNat_ofNat']; omega
  · intro h; subst h; simp
theorem readDhcp (l : List Int) (hB : Bytes l) (hl : l.length ≤ 65536) : ∃ r : Dh, Ev (fun k => spec_l03ReadDhcp.f k (strOfNums l)) r ∧ Ev (fun k => impl_readDhcp.f k l) r := by
  have hs : (strOfNums l).size = l.length := str_size l
  have sT : Ev (fun k => spec_l03ReadDhcp.j0 k (strOfNums l) true) noDh := Ev.step (fun k => by simp only [spec_l03ReadDhcp.j0]; rw [if_pos (by decide)]) (Ev.now _)
  have iT : Ev (fun k => impl_readDhcp.j0 k l true) noDh := Ev.step (fun k => by simp only [impl_readDhcp.j0]; rw [if_pos (by decide)]) (Ev.now _)
  by_cases h1 : 240 ≤ l.length
  · have e0 : bt (strOfNums l) 0 = rd l 0 := str_bt hB 0
    have p0 : (0 : Int) < l.length := by omega
    have p1 : (1 : Int) < l.length := by omega
    have p2 : (2 : Int) < l.length := by omega
    have p3 : (3 : Int) ≤ l.length := by omega
    have p8 : (8 : Int) ≤ l.length := by omega
    have p20 : (20 : Int) ≤ l.length := by omega
    have p34 : (34 : Int) ≤ l.length := by omega
    have p240 : (240 : Int) ≤ l.length := by omega
    have cut : ∀ a b : Nat, (strOfNums l).extract a b = strOfNums ((l.take b).drop a) := str_cut l
    have hn : ∀ a b : Nat, a ≤ b → b ≤ 34 → ((l.take b).drop a).length = b - a := fun a b h2 h3 => by rw [List.length_drop, List.length_take]; omega
    have bb : ∀ a b : Nat, Bytes ((l.take b).drop a) := fun a b => bytes_drop (bytes_take hB b) a
    have S : ∀ a b : Nat, a ≤ b → b ≤ 34 → b - a ≤ 7 → Ev (fun k => spec_l01Of.f k (strOfNums ((l.take b).drop a))) (num ((l.take b).drop a)) := fun a b h2 h3 h4 => spec_of_ev _ (bb a b) (by rw [hn a b h2 h3]; exact h4)
    have I : ∀ a b : Nat, a ≤ b → b ≤ 34 → b - a ≤ 7 → Ev (fun k => impl_num.f k ((l.take b).drop a)) (num ((l.take b).drop a)) := fun a b h2 h3 h4 => impl_num_ev _ (bb a b) (by rw [hn a b h2 h3]; exact h4)
    have r0 := rd_byte hB 0
    have r1 := rd_byte hB 1
    have r2 := rd_byte hB 2
    simp only [show ((0 : Nat) : Int) = 0 from rfl, show ((1 : Nat) : Int) = 1 from rfl, show ((2 : Nat) : Int) = 2 from rfl] at r0 r1 r2
    have w0 : wrap64 (rd l 0) = rd l 0 := wrap64_id (by omega) (by omega)
    have two : ((strOfNums ((l.take 3).drop 1)).toList = ([1, 6] : List UInt8)) ↔ rd l 1 = 1 ∧ rd l 2 = 6 := by
      match l, h1 with
      | a0 :: a1 :: a2 :: m, _ =>
        have g1 := hB a1 (by simp)
        have g2 := hB a2 (by simp)
        simp only [toList_data, strOfNums_data, List.take_succ_cons, List.take_zero, List.drop_succ_cons, List.drop_zero, List.map_cons, List.map_nil, List.cons.injEq, and_true]
        rw [byte_of g1.1 g1.2, byte_of g2.1 g2.2]
        simp only [rd, show (1 : Int).toNat = 1 from rfl, show (2 : Int).toNat = 2 from rfl, List.getD_cons_succ, List.getD_cons_zero]
        rfl
    have N1 := num_lt (bb 4 8) 4 (hn 4 8 (by omega) (by omega))
    have N2 := num_lt (bb 16 20) 4 (hn 16 20 (by omega) (by omega))
    have z : (strOfNums ((l.take 34).drop 28)).size = 6 := by rw [str_size, hn 28 34 (by omega) (by omega)]
    by_cases g0 : 1 ≤ rd l 0 ∧ rd l 0 ≤ 2
    · have fS : ∀ r, (¬ (rd l 1 = 1 ∧ rd l 2 = 6) → r = noDh) → (rd l 1 = 1 ∧ rd l 2 = 6 → Ev (fun k => spec_l03ReadDhcp.j0 k (strOfNums l) ((strOfNums ((l.take 240).drop 236)).toList != ([99, 130, 83, 99] : List UInt8))) r) → Ev (fun k => spec_l03ReadDhcp.f k (strOfNums l)) r := fun r hn hy => by
        have e : ∀ k, spec_l03ReadDhcp.f k (strOfNums l) = if (strOfNums ((l.take 3).drop 1)).toList = ([1, 6] : List UInt8) then spec_l03ReadDhcp.j0 k (strOfNums l) ((strOfNums ((l.take 240).drop 236)).toList != ([99, 130, 83, 99] : List UInt8)) else spec_l03ReadDhcp.j0 k (strOfNums l) true := fun k => by
          unfold spec_l03ReadDhcp.f spec_l01In.f
          rw [hs, if_neg (by omega), if_pos p0, e0, w0, if_pos g0.1, decide_eq_true g0.2, Option.bind_some, if_pos rfl]
          simp only [p3, p240, cut, Int.reduceLE, Nat.reduceLeDiff, if_true]
        by_cases h : rd l 1 = 1 ∧ rd l 2 = 6
        · exact Ev.congr (fun k => by rw [e k, if_pos (two.2 h)]) (hy h)
        · rw [hn h]; exact Ev.congr (fun k => by rw [e k, if_neg (fun h' => h (two.1 h'))]) sT
      have fI : ∀ r, (¬ (rd l 1 = 1 ∧ rd l 2 = 6) → r = noDh) → (rd l 1 = 1 ∧ rd l 2 = 6 → Ev (fun k => impl_readDhcp.j0 k l ((strOfNums ((l.take 240).drop 236)).toList != ([99, 130, 83, 99] : List UInt8))) r) → Ev (fun k => impl_readDhcp.f k l) r := fun r hn hy => by
        have e : ∀ k, impl_readDhcp.f k l = if rd l 1 = 1 then (if rd l 2 = 6 then impl_readDhcp.j0 k l ((strOfNums ((l.take 240).drop 236)).toList != ([99, 130, 83, 99] : List UInt8)) else impl_readDhcp.j0 k l true) else impl_readDhcp.j0 k l true := fun k => by
          unfold impl_readDhcp.f impl_within.f
          rw [if_neg (by omega), if_pos p0, w0, if_pos g0.1, decide_eq_true g0.2, Option.bind_some, if_pos rfl]
          simp only [p1, p2, p240, Int.reduceLE, Nat.reduceLeDiff, if_true]
        by_cases h : rd l 1 = 1 ∧ rd l 2 = 6
        · exact Ev.congr (fun k => by rw [e k, if_pos h.1, if_pos h.2]) (hy h)
        · rw [hn h]
          by_cases h' : rd l 1 = 1
          · exact Ev.congr (fun k => by rw [e k, if_pos h', if_neg (fun h2 => h ⟨h', h2⟩)]) iT
          · exact Ev.congr (fun k => by rw [e k, if_neg h']) iT
      by_cases g1 : rd l 1 = 1 ∧ rd l 2 = 6
      · by_cases g2 : (strOfNums ((l.take 240).drop 236)).toList = ([99, 130, 83, 99] : List UInt8)
        · obtain ⟨kd, ok, k0, k1, hI, hS⟩ := options l hB h1 hl (num ((l.take 8).drop 4)) (num ((l.take 20).drop 16)) (by omega) (by omega) (rd l 0 == 2) (strOfNums ((l.take 34).drop 28)) z (l.length - 240) 0 0 (by omega) (by omega) (by omega) (by omega)
          refine ⟨fin (num ((l.take 8).drop 4)) (num ((l.take 20).drop 16)) (rd l 0 == 2) (strOfNums ((l.take 34).drop 28)) kd ok, fS _ (fun h => absurd g1 h) (fun _ => ?_), fI _ (fun h => absurd g1 h) (fun _ => ?_)⟩
          · rw [g2]
            refine Ev.step (fun k => by simp only [spec_l03ReadDhcp.j0, hs, cut, p0, p8, p20, p34, e0, Int.reduceLE, Nat.reduceLeDiff, if_true, bne_self_eq_false, Bool.false_eq_true, if_false]; rfl) ?_
            exact Ev.bind (S 4 8 (by omega) (by omega) (by omega)) (Ev.bind (S 16 20 (by omega) (by omega) (by omega)) hS)
          · rw [g2]
            have jI : Ev (fun k => impl_readDhcp.j1 k l kd false) ((num ((l.take 8).drop 4), num ((l.take 20).drop 16), kd, (rd l 0 == 2), strOfNums ((l.take 34).drop 28), 0) : Dh) := by
              refine Ev.step (fun k => by simp only [impl_readDhcp.j1, p0, p8, p20, p34, Int.reduceLE, Nat.reduceLeDiff, if_true, Bool.false_eq_true, if_false]; rfl) ?_
              exact Ev.bind (I 4 8 (by omega) (by omega) (by omega)) (Ev.bind (I 16 20 (by omega) (by omega) (by omega)) (Ev.now _))
            have jT : Ev (fun k => impl_readDhcp.j1 k l kd true) noDh := Ev.step (fun k => by simp only [impl_readDhcp.j1]; rw [if_pos (by decide)]) (Ev.now _)
            refine Ev.step (fun k => by simp only [impl_readDhcp.j0, p240, Int.reduceLE, Nat.reduceLeDiff, if_true, bne_self_eq_false, Bool.false_eq_true, if_false]; rfl) ?_
            refine Ev.bind hI ?_
            unfold fin
            by_cases o : ok = true
            · simp only [o, if_true, true_and]
              by_cases q : 1 ≤ kd ∧ kd ≤ 8
              · rw [if_pos q]
                refine Ev.congr (fun k => ?_) jI
                unfold impl_within.f; rw [if_pos q.1, decide_eq_true q.2]; rfl
              · rw [if_neg q]
                refine Ev.congr (fun k => ?_) jT
                unfold impl_within.f
                by_cases q1 : kd ≥ 1
                · rw [if_pos q1, decide_eq_false (fun h => q ⟨q1, h⟩)]; rfl
                · rw [if_neg q1]; rfl
            · rw [if_neg (fun h => o h.1)]
              simp only [o, if_false]
              exact jT
        · have g2' : ((strOfNums ((l.take 240).drop 236)).toList != ([99, 130, 83, 99] : List UInt8)) = true := by simp [g2]
          refine ⟨noDh, fS _ (fun _ => rfl) (fun _ => ?_), fI _ (fun _ => rfl) (fun _ => ?_)⟩
          · rw [g2']; exact sT
          · rw [g2']; exact iT
      · exact ⟨noDh, fS _ (fun _ => rfl) (fun h => absurd h g1), fI _ (fun _ => rfl) (fun h => absurd h g1)⟩
    · refine ⟨noDh, Ev.congr (fun k => ?_) sT, Ev.congr (fun k => ?_) iT⟩
      · unfold spec_l03ReadDhcp.f spec_l01In.f
        rw [hs, if_neg (by omega), if_pos p0, e0, w0]
        by_cases q : 1 ≤ rd l 0
        · rw [if_pos q, decide_eq_false (fun h => g0 ⟨q, h⟩)]; rfl
        · rw [if_neg q]; rfl
      · unfold impl_readDhcp.f impl_within.f
        rw [if_neg (by omega), if_pos p0, w0]
        by_cases q : rd l 0 ≥ 1
        · rw [if_pos q, decide_eq_false (fun h => g0 ⟨q, h⟩)]; rfl
        · rw [if_neg q]; rfl
  · refine ⟨noDh, Ev.congr (fun k => ?_) sT, Ev.congr (fun k => ?_) iT⟩
    · unfold spec_l03ReadDhcp.f
      rw [hs, if_pos (by omega)]
    · unfold impl_readDhcp.f
      rw [if_pos (by omega)]
theorem FnExactReadDhcp : laws_FnExactReadDhcp.Pure := by
  intro l _ _ hb
  apply Ev.rounds
  by_cases h0 : (l.length : Int) > 1048576
  · refine Ev.congr (fun k => ?_) (Ev.now true)
    unfold laws_FnExactReadDhcp.f; rw [if_pos h0]
  · have hT := toByteS_ev l (by omega)
    have hE := eqByteS_ev l (by omega)
    have hB := bytes_wf hb
    have key : ∃ r : Dh, Ev (fun k => spec_ReadDhcp.f k l) r ∧ Ev (fun k => impl_ReadDhcp.f k l) r := by
      by_cases h1 : (l.length : Int) > 65536
      · exact ⟨_, Ev.congr (fun k => by unfold spec_ReadDhcp.f; rw [if_pos h1]) (Ev.now _), Ev.congr (fun k => by unfold impl_ReadDhcp.f; rw [if_pos h1]) (Ev.now _)⟩
      · obtain ⟨⟨r1, r2, r3, r4, r5, r6⟩, hS, hI⟩ := readDhcp l hB (by omega)
        refine ⟨(r1, r2, r3, r4, r5, r6), Ev.congr (fun k => by unfold spec_ReadDhcp.f; rw [if_neg h1]) (Ev.bind hS (Ev.now _)), Ev.congr (fun k => by unfold impl_ReadDhcp.f; rw [if_neg h1]) (Ev.bind hI (Ev.now _))⟩
    obtain ⟨⟨r1, r2, r3, r4, r5, r6⟩, hS, hI⟩ := key
    refine Ev.congr (fun k => by unfold laws_FnExactReadDhcp.f; rw [if_neg h0]) ?_
    refine Ev.bind hT (Ev.bind hS (Ev.bind hT (Ev.bind hI ?_)))
    simp only [laws_eqDhcp.f, if_true, bne_self_eq_false, Bool.false_eq_true, if_false, Option.bind_some]
    refine Ev.step (fun k => by simp only [laws_FnExactReadDhcp.j0]; rw [if_neg (by decide)]) ?_
    refine Ev.bind hT (Ev.bind hE (Ev.now _))

end Go.Proofs.Ytohlocmdpdghiaa.Pure
