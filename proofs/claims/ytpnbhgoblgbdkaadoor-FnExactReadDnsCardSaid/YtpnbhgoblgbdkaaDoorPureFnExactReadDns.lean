/- ReadDns: a question for a name is read alike: the program cuts the row behind each label and joins the labels at the end, the reference walks by a place and lays the name together on its way. -/
import Derived.Test.YtpnbhgoblgbdkaaDoorPDrx7
import Derived.Test.YtpnbhgoblgbdkaaDoorBase
import Derived.Lib.SplitLaws
import Derived.Lib.CountLaws
import Derived.Lib.IndexBytes
import Derived.Lib.CutLaws
import Derived.Lib.Join
set_option linter.unusedSimpArgs false
set_option linter.unusedVariables false
namespace Go.Proofs.YtpnbhgoblgbdkaaDoor.Pure
open Go.RowKit Go.Proofs.YtpnbhgoblgbdkaaDoor.PDr Go.Proofs.YtpnbhgoblgbdkaaDoorW.PrintWords Go.Proofs.YtpnbhgoblgbdkaaDoorW.PrintLast Go.Proofs.YtpnbhgoblgbdkaaDoorW.PrintMore Base

/-! ### rows of bytes and the strings of them -/
def Bytes (l : List Int) : Prop := ∀ x ∈ l, 0 ≤ x ∧ x < 256
theorem bytes_wf {l : List Int} (h : ∀ x ∈ l, (Lit.int .u8 x).wf = true) : Bytes l := fun x hx => wf_u8 (h x hx)
theorem bytes_take {l : List Int} (h : Bytes l) (n : Nat) : Bytes (l.take n) := fun x hx => h x (List.mem_of_mem_take hx)
theorem bytes_drop {l : List Int} (h : Bytes l) (n : Nat) : Bytes (l.drop n) := fun x hx => h x (List.mem_of_mem_drop hx)
theorem rd_nat (l : List Int) (i : Nat) : rd l (i : Int) = l.getD i 0 := by simp [rd]
theorem rd_at (l : List Int) (i : Nat) (h : i < l.length) : rd l (i : Int) = l[i] := by
  rw [rd_nat, List.getD_eq_getElem?_getD, List.getElem?_eq_getElem h]; rfl
theorem rd_byte {l : List Int} (h : Bytes l) (i : Nat) : 0 ≤ rd l (i : Int) ∧ rd l (i : Int) < 256 := by
  by_cases hi : i < l.length
  · rw [rd_at l i hi]; exact h _ (List.getElem_mem hi)
  · rw [rd_nat, List.getD_eq_getElem?_getD, List.getElem?_eq_none (by omega)]; simp
theorem str_bt {l : List Int} (h : Bytes l) (i : Nat) : bt (strOfNums l) (i : Int) = rd l (i : Int) := by
  rw [bt_nat, strOfNums_data, rd_nat, List.getD_eq_getElem?_getD, List.getD_eq_getElem?_getD, List.getElem?_map]
  by_cases hi : i < l.length
  · rw [List.getElem?_eq_getElem hi]
    simp only [Option.map_some, Option.getD_some]
    have := h _ (List.getElem_mem hi)
    rw [UInt8.toNat_ofNat']; omega
  · rw [List.getElem?_eq_none (by omega)]; rfl
theorem str_cut (l : List Int) (a b : Nat) : (strOfNums l).extract a b = strOfNums ((l.take b).drop a) := by
  apply toList_inj
  rw [toList_data, toList_data, strOfNums_data, ByteArray.data_extract, Array.toList_extract, List.extract_eq_take_drop, strOfNums_data, List.map_drop, List.map_take, List.drop_take]
theorem str_size (l : List Int) : (strOfNums l).size = l.length := strOfNums_size l

/-! ### the number of a row of bytes, high byte first -/
def num (l : List Int) : Int := l.foldl (fun n c => n * 256 + c) 0
theorem num_snoc (l : List Int) (c : Int) : num (l ++ [c]) = num l * 256 + c := by simp [num]
theorem num_take (l : List Int) (i : Nat) (h : i < l.length) : num (l.take (i + 1)) = num (l.take i) * 256 + l[i] := by
  rw [List.take_succ_eq_append_getElem h, num_snoc]
theorem num_0 {l : List Int} (h : Bytes l) : ∀ i, i ≤ l.length → 0 ≤ num (l.take i) ∧ num (l.take i) < 256 ^ i := by
  intro i
  induction i with
  | zero => intro _; rw [List.take_zero]; exact ⟨by decide, by decide⟩
  | succ i ih =>
    intro hi
    have h1 := ih (by omega)
    have h2 := h _ (List.getElem_mem (show i < l.length by omega))
    rw [num_take l i (by omega), Int.pow_succ]
    omega
theorem num_6 {l : List Int} (h : Bytes l) (i : Nat) (hi : i ≤ l.length) (h7 : i ≤ 6) : 0 ≤ num (l.take i) ∧ num (l.take i) < 281474976710656 := by
  have h1 := num_0 h i hi
  rcases (show i = 0 ∨ i = 1 ∨ i = 2 ∨ i = 3 ∨ i = 4 ∨ i = 5 ∨ i = 6 by omega) with e | e | e | e | e | e | e <;> rw [e] at h1 ⊢ <;> omega
theorem num_lt {l : List Int} (h : Bytes l) (n : Nat) (hn : l.length = n) : 0 ≤ num l ∧ num l < 256 ^ n := by
  have := num_0 h l.length (Nat.le_refl _)
  rw [List.take_length] at this; rw [hn] at this; exact this

/-! ### a row copied, two rows compared -/
theorem toByteS_l0 (l : List Int) (hl : l.length ≤ 1048576) (d : Nat) : ∀ (i : Nat) (x : List Int), i + d = l.length → x.length = l.length → (∀ j, j < i → x[j]? = l[j]?) → Ev (fun k => laws_toByteS.l0 k l x (i : Int)) l := by
  induction d with
  | zero =>
    intro i x hi hx hj
    have hxl : x = l := by
      apply List.ext_getElem?
      intro j
      by_cases h : j < i
      · exact hj j h
      · rw [List.getElem?_eq_none (by omega), List.getElem?_eq_none (by omega)]
    subst hxl
    refine Ev.step (f := fun _ => some x) (fun k => ?_) (Ev.now _)
    simp only [laws_toByteS.l0]; rw [if_neg (by omega)]
  | succ d ih =>
    intro i x hi hx hj
    have hw : wrap64 ((i : Int) + 1) = ((i + 1 : Nat) : Int) := by rw [wrap64_id (by omega) (by omega)]; omega
    refine Ev.step (f := fun k => laws_toByteS.l0 k l (x.set i (rd l i)) ((i + 1 : Nat) : Int)) (fun k => ?_) (ih (i + 1) _ (by omega) (by simpa using hx) ?_)
    · simp only [laws_toByteS.l0, hw]; rw [if_pos (by omega), if_pos (by omega), if_pos (by omega)]; rfl
    · intro j hji
      by_cases h : j = i
      · subst h
        rw [List.getElem?_set_self (by omega), rd_nat, List.getD_eq_getElem?_getD, List.getElem?_eq_getElem (by omega)]; rfl
      · rw [List.getElem?_set_ne (by omega)]; exact hj j (by omega)
theorem toByteS_ev (l : List Int) (hl : l.length ≤ 1048576) : Ev (fun k => laws_toByteS.f k l) l := by
  refine Ev.congr (f := fun k => laws_toByteS.l0 k l (List.replicate l.length 0) ((0 : Nat) : Int)) (fun k => ?_) (toByteS_l0 l hl l.length 0 _ (by omega) (by simp) (fun j hj => by omega))
  unfold laws_toByteS.f
  rw [if_pos (by omega), if_pos (by omega)]; rfl

/-! ### a row compared with itself -/
theorem eqByteS_l0 (l : List Int) (hl : l.length ≤ 1048576) (d : Nat) : ∀ (i : Nat), i + d = l.length → Ev (fun k => laws_eqByteS.l0 k l l (i : Int)) true := by
  induction d with
  | zero =>
    intro i hi
    refine Ev.step (f := fun _ => some true) (fun k => ?_) (Ev.now _)
    simp only [laws_eqByteS.l0]; rw [if_neg (by omega)]
  | succ d ih =>
    intro i hi
    have hw : wrap64 ((i : Int) + 1) = ((i + 1 : Nat) : Int) := by rw [wrap64_id (by omega) (by omega)]; omega
    refine Ev.step (f := fun k => laws_eqByteS.l0 k l l ((i + 1 : Nat) : Int)) (fun k => ?_) (ih (i + 1) (by omega))
    simp only [laws_eqByteS.l0, hw]; rw [if_pos (by omega), if_pos (by omega), if_pos (by omega), if_pos trivial]
theorem eqByteS_ev (l : List Int) (hl : l.length ≤ 1048576) : Ev (fun k => laws_eqByteS.f k l l) true := by
  refine Ev.congr (f := fun k => laws_eqByteS.l0 k l l ((0 : Nat) : Int)) (fun k => ?_) (eqByteS_l0 l hl l.length 0 (by omega))
  unfold laws_eqByteS.f
  rw [if_pos rfl]; rfl

/-! ### the program's and the reference's number of bytes -/
theorem impl_num_l0 (l : List Int) (h : Bytes l) (h7 : l.length ≤ 7) (d : Nat) : ∀ i, i + d = l.length → Ev (fun k => impl_num.l0 k (num (l.take i)) l (l.length : Int) (i : Int)) (num l) := by
  induction d with
  | zero =>
    intro i hi
    refine Ev.step (f := fun _ => some (num l)) (fun k => ?_) (Ev.now _)
    simp only [impl_num.l0]; rw [if_neg (by omega), List.take_of_length_le (by omega)]
  | succ d ih =>
    intro i hi
    have hw : wrap64 ((i : Int) + 1) = ((i + 1 : Nat) : Int) := by rw [wrap64_id (by omega) (by omega)]; omega
    have h1 := num_6 h i (by omega) (by omega)
    have h2 := h _ (List.getElem_mem (show i < l.length by omega))
    have h3 := num_take l i (by omega)
    refine Ev.step (fun k => ?_) (ih (i + 1) (by omega))
    simp only [impl_num.l0, hw, rd_at l i (by omega)]
    rw [if_pos (by omega), if_pos (by omega), if_pos (by omega), h3, wrap64_id (x := num (l.take i) * 256) (by omega) (by omega), wrap64_id (x := l[i]) (by omega) (by omega), wrap64_id (by omega) (by omega)]
theorem impl_num_ev (l : List Int) (h : Bytes l) (h7 : l.length ≤ 7) : Ev (fun k => impl_num.f k l) (num l) :=
  impl_num_l0 l h h7 l.length 0 (by omega)
theorem spec_of_l0 (l : List Int) (h : Bytes l) (h7 : l.length ≤ 7) (d : Nat) : ∀ i, i + d = l.length → Ev (fun k => spec_l01Of.l0 k (strOfNums l) (num (l.take i)) (i : Int)) (num l) := by
  induction d with
  | zero =>
    intro i hi
    refine Ev.step (f := fun _ => some (num l)) (fun k => ?_) (Ev.now _)
    simp only [spec_l01Of.l0]; rw [if_neg (by rw [str_size]; omega), List.take_of_length_le (by omega)]
  | succ d ih =>
    intro i hi
    have hw : wrap64 ((i : Int) + 1) = ((i + 1 : Nat) : Int) := by rw [wrap64_id (by omega) (by omega)]; omega
    have h1 := num_6 h i (by omega) (by omega)
    have h2 := h _ (List.getElem_mem (show i < l.length by omega))
    have h3 := num_take l i (by omega)
    refine Ev.step (fun k => ?_) (ih (i + 1) (by omega))
    simp only [spec_l01Of.l0, hw, str_bt h, rd_at l i (by omega)]
    rw [if_pos (by rw [str_size]; omega), if_pos (by omega), h3, wrap64_id (x := num (l.take i) * 256) (by omega) (by omega), wrap64_id (x := l[i]) (by omega) (by omega), wrap64_id (by omega) (by omega)]
theorem spec_of_ev (l : List Int) (h : Bytes l) (h7 : l.length ≤ 7) : Ev (fun k => spec_l01Of.f k (strOfNums l)) (num l) :=
  spec_of_l0 l h h7 l.length 0 (by omega)

/-! ### a string's bytes make the string -/
theorem str_bytesOf (a : ByteArray) : strOfNums (bytesOf a) = a := by
  apply toList_inj
  rw [toList_data, toList_data, strOfNums_data]
  unfold bytesOf
  rw [List.map_map]
  conv => rhs; rw [← List.map_id a.data.toList]
  apply List.map_congr_left
  intro x _
  simp [Function.comp]
theorem bytesOf_bytes (a : ByteArray) : Bytes (bytesOf a) := by
  intro x hx
  unfold bytesOf at hx
  obtain ⟨y, _, rfl⟩ := List.mem_map.1 hx
  have := y.toNat_lt
  exact ⟨by omega, by omega⟩

/-! ### the pieces between dots, and a name of them -/
theorem conv (t : ByteArray) : Lib.indexB t ⟨#[46]⟩ = Lib.indexByte t.data.toList 46 := Lib.index_one t.data.toList 46
theorem one_miss (t : ByteArray) (h : ∀ j : Nat, t.data.toList[j]? ≠ some 46) : Lib.indexB t ⟨#[46]⟩ = -1 := by
  rcases Lib.indexB_cases t ⟨#[46]⟩ with e | ⟨i, e, _⟩
  · exact e
  · rw [conv] at e
    exact absurd (Lib.indexByte_some e).1 (h i)
theorem one_hit (t : ByteArray) (n : Nat) (h : t.data.toList[n]? = some 46) (hno : ∀ j : Nat, j < n → t.data.toList[j]? ≠ some 46) : Lib.indexB t ⟨#[46]⟩ = n := by
  rcases Lib.indexB_cases t ⟨#[46]⟩ with e | ⟨i, e, _⟩
  · rw [conv] at e
    exact absurd h (Lib.indexByte_none e n)
  · have e2 := e
    rw [conv] at e
    obtain ⟨h1, h2⟩ := Lib.indexByte_some e
    rw [e2]
    rcases Nat.lt_trichotomy i n with q | q | q
    · exact absurd h1 (hno i q)
    · rw [q]
    · exact absurd h (h2 n q)
theorem ex_list (s : ByteArray) (a n : Nat) : (s.extract a n).data.toList = (s.data.toList.take n).drop a := by
  rw [ByteArray.data_extract, Array.toList_extract, List.extract_eq_take_drop, List.drop_take]
theorem ex_ex (s : ByteArray) (a b c : Nat) (h : a + c ≤ s.size) : (s.extract a s.size).extract b c = s.extract (a + b) (a + c) := by
  apply toList_inj
  rw [toList_data, toList_data, ex_list, ex_list, ex_list, List.take_of_length_le (l := s.data.toList) (by rw [data_length]; exact Nat.le_refl _), List.take_drop, List.drop_drop]
theorem bt_46 (s : ByteArray) (i : Nat) : bt s (i : Int) = 46 ↔ s.data.toList[i]? = some 46 := by
  rw [bt_nat]
  by_cases h : i < s.data.toList.length
  · rw [List.getD_eq_getElem?_getD, List.getElem?_eq_getElem h]
    simp only [Option.getD_some, Option.some.injEq]
    constructor
    · intro e
      have : s.data.toList[i].toNat = 46 := by omega
      exact UInt8.toNat_inj.1 this
    · intro e; rw [e]; rfl
  · rw [List.getD_eq_getElem?_getD, List.getElem?_eq_none (by omega)]; simp
def cutFrom (s : ByteArray) (a i : Nat) : Nat → List ByteArray
  | 0 => [s.extract a s.size]
  | d + 1 => if bt s (i : Int) = 46 then s.extract a i :: cutFrom s (i + 1) (i + 1) d else cutFrom s a (i + 1) d
theorem cut_split (s : ByteArray) (d : Nat) : ∀ a i : Nat, a ≤ i → i + d = s.size → (∀ j, a ≤ j → j < i → s.data.toList[j]? ≠ some 46) → cutFrom s a i d = Lib.splitB ⟨#[46]⟩ 0 (Lib.countB (s.extract a s.size) ⟨#[46]⟩) (s.extract a s.size) := by
  have at_ : ∀ a j : Nat, (s.extract a s.size).data.toList[j]? = s.data.toList[a + j]? := fun a j => by
    rw [ex_list, List.take_of_length_le (by rw [data_length]; omega), List.getElem?_drop]
  induction d with
  | zero =>
    intro a i ha hi hno
    have hm := one_miss (s.extract a s.size) (fun j => by
      rw [at_]
      by_cases q : a + j < i
      · exact hno _ (by omega) q
      · rw [List.getElem?_eq_none (by rw [data_length]; omega)]; simp)
    rw [Lib.splitB_miss _ _ _ _ hm]; rfl
  | succ d ih =>
    intro a i ha hi hno
    unfold cutFrom
    by_cases hb : bt s (i : Int) = 46
    · rw [if_pos hb]
      have hh := one_hit (s.extract a s.size) (i - a) (by rw [at_, show a + (i - a) = i by omega]; exact (bt_46 s i).1 hb) (fun j hj => by rw [at_]; exact hno _ (by omega) (by omega))
      have hsz : (s.extract a s.size).size = s.size - a := by simp
      have hr : (s.extract a s.size).extract (i - a + (⟨#[46]⟩ : ByteArray).size) (s.extract a s.size).size = s.extract (i + 1) s.size := by
        rw [hsz, show (⟨#[46]⟩ : ByteArray).size = 1 from rfl, ex_ex s a _ _ (by omega), show a + (i - a + 1) = i + 1 by omega, show a + (s.size - a) = s.size by omega]
      rw [Lib.countB_hit _ _ (i - a) (by decide) hh, hr, Nat.add_comm 1, Lib.splitB_hit _ _ _ _ (i - a) hh, hr, ← ih (i + 1) (i + 1) (Nat.le_refl _) (by omega) (fun j h1 h2 => by omega)]
      rw [ex_ex s a 0 (i - a + 0) (by omega), show a + 0 = a from rfl, show a + (i - a + 0) = i by omega]
    · rw [if_neg hb]
      exact ih a (i + 1) (by omega) (by omega) (fun j h1 h2 => by
        by_cases q : j = i
        · rw [q]; exact fun e => hb ((bt_46 s i).2 e)
        · exact hno j h1 (by omega))
theorem cut_pieces (s : ByteArray) : cutFrom s 0 0 s.size = pieces s := by
  have h := cut_split s s.size 0 0 (Nat.le_refl _) (by omega) (fun j _ h => by omega)
  rw [h]
  have e : s.extract 0 s.size = s := by
    apply toList_inj
    rw [toList_data, toList_data, ex_list, List.drop_zero, List.take_of_length_le (by rw [data_length]; omega)]
  rw [e]; rfl
theorem cut_l0 (s : ByteArray) (hs : s.size ≤ 1048576) (d : Nat) : ∀ (a i : Nat) (x : List ByteArray), a ≤ i → i + d = s.size → x.length ≤ i → Ev (fun k => spec_l00Cut.l0 k s 46 x (a : Int) (i : Int)) (x ++ cutFrom s a i d) := by
  induction d with
  | zero =>
    intro a i x ha hi hx
    refine Ev.step (f := fun _ => some _) (fun k => ?_) (Ev.now _)
    simp only [spec_l00Cut.l0, Int.toNat_natCast]; rw [if_neg (by omega), if_pos (by omega), if_pos (by omega), if_pos (by omega)]; rfl
  | succ d ih =>
    intro a i x ha hi hx
    have hw : wrap64 ((i : Int) + 1) = ((i + 1 : Nat) : Int) := by rw [wrap64_id (by omega) (by omega)]; omega
    unfold cutFrom
    by_cases hb : bt s (i : Int) = 46
    · rw [if_pos hb]
      have h := ih (i + 1) (i + 1) (x ++ [s.extract a i]) (Nat.le_refl _) (by omega) (by simp; omega)
      rw [List.append_assoc] at h
      refine Ev.step (fun k => ?_) h
      simp only [spec_l00Cut.l0, hw, Int.toNat_natCast]; rw [if_pos (by omega), if_pos (by omega), if_pos hb, if_pos (by omega), if_pos (by omega), if_pos (by omega), if_pos (by omega)]
    · rw [if_neg hb]
      refine Ev.step (fun k => ?_) (ih a (i + 1) x (by omega) (by omega) (by omega))
      simp only [spec_l00Cut.l0, hw]; rw [if_pos (by omega), if_pos (by omega), if_neg hb]
theorem cut_ev (s : ByteArray) (hs : s.size ≤ 1048576) : Ev (fun k => spec_l00Cut.f k s 46) (pieces s) := by
  have h := cut_l0 s hs s.size 0 0 [] (Nat.le_refl _) (by omega) (by simp)
  rw [List.nil_append, cut_pieces] at h
  exact Ev.congr (fun k => by unfold spec_l00Cut.f; rfl) h
theorem cut_size (s : ByteArray) (d : Nat) : ∀ a i : Nat, ∀ x ∈ cutFrom s a i d, x.size ≤ s.size := by
  induction d with
  | zero => intro a i x hx; simp only [cutFrom, List.mem_singleton] at hx; subst hx; simp
  | succ d ih =>
    intro a i x hx
    unfold cutFrom at hx
    by_cases hb : bt s (i : Int) = 46
    · rw [if_pos hb] at hx
      rcases List.mem_cons.1 hx with e | e
      · subst e; simp; omega
      · exact ih _ _ x e
    · rw [if_neg hb] at hx; exact ih _ _ x hx
theorem piece_size (s x : ByteArray) (h : x ∈ pieces s) : x.size ≤ s.size := cut_size s s.size 0 0 x (by rw [cut_pieces]; exact h)
/-! ### a piece, byte by byte -/
def letv (b : Int) : Bool := (impl_isLetter.f b).getD false
def digv (b : Int) : Bool := (impl_isDigit.f b).getD false
theorem let_i (b : Int) : impl_isLetter.f b = some (letv b) := by
  unfold letv impl_isLetter.f
  repeat' split
  all_goals rfl
theorem let_s (b : Int) : spec_l00Letter.f b = some (letv b) := let_i b
theorem dig_i (b : Int) : impl_isDigit.f b = some (digv b) := by
  unfold digv impl_isDigit.f
  split <;> rfl
theorem dig_s (b : Int) : spec_l00Digit.f b = some (digv b) := dig_i b
def okb (b : Int) : Bool := letv b || (digv b || decide (b = 45))
def okFrom (s : ByteArray) (i : Nat) : Nat → Bool
  | 0 => true
  | d + 1 => okb (bt s (i : Int)) && okFrom s (i + 1) d
def sz20 (s : ByteArray) : Bool := decide (1 ≤ (s.size : Int) ∧ (s.size : Int) ≤ 20)
def pok (s : ByteArray) : Bool := okFrom s 0 s.size && sz20 s
theorem in_i (s : ByteArray) : impl_within.f (s.size : Int) 1 20 = some (sz20 s) := by
  unfold impl_within.f sz20
  by_cases h : (s.size : Int) ≥ 1
  · rw [if_pos h]; congr 1; apply decide_eq_decide.2; exact ⟨fun q => ⟨h, q⟩, fun q => q.2⟩
  · rw [if_neg h]; congr 1; symm; apply decide_eq_false; intro q; exact h q.1
theorem in_s (s : ByteArray) : spec_l01In.f (s.size : Int) 1 20 = some (sz20 s) := in_i s
theorem part_l0 (s : ByteArray) (hs : s.size ≤ 1048576) (d : Nat) : ∀ i : Nat, i + d = s.size → Ev (fun k => impl_partOK.l0 k s (s.size : Int) (i : Int)) (okFrom s i d && sz20 s) := by
  induction d with
  | zero =>
    intro i hi
    refine Ev.step (f := fun _ => some _) (fun k => ?_) (Ev.now _)
    simp only [impl_partOK.l0, in_i, Option.bind_some, okFrom, Bool.true_and]; rw [if_neg (by omega)]
  | succ d ih =>
    intro i hi
    have hw : wrap64 ((i : Int) + 1) = ((i + 1 : Nat) : Int) := by rw [wrap64_id (by omega) (by omega)]; omega
    have h := ih (i + 1) (by omega)
    unfold okFrom okb
    cases h1 : letv (bt s (i : Int)) with
    | true =>
      rw [Bool.true_or, Bool.true_and]
      refine Ev.step (fun k => ?_) h
      simp only [impl_partOK.l0, let_i, dig_i, Option.bind_some, hw, h1]; rw [if_pos (by omega), if_pos (by omega), if_pos (by omega), if_pos trivial]
    | false =>
      rw [Bool.false_or]
      cases h2 : digv (bt s (i : Int)) with
      | true =>
        rw [Bool.true_or, Bool.true_and]
        refine Ev.step (fun k => ?_) h
        simp only [impl_partOK.l0, let_i, dig_i, Option.bind_some, hw, h1, h2]; rw [if_pos (by omega), if_pos (by omega), if_pos (by omega), if_neg (by simp), if_pos trivial]
      | false =>
        rw [Bool.false_or]
        by_cases h3 : bt s (i : Int) = 45
        · rw [decide_eq_true h3, Bool.true_and]
          refine Ev.step (fun k => ?_) h
          simp only [impl_partOK.l0, let_i, dig_i, Option.bind_some, hw, h1, h2]; rw [if_pos (by omega), if_pos (by omega), if_pos (by omega), if_neg (by simp), if_neg (by simp), if_pos h3]
        · rw [decide_eq_false h3, Bool.false_and, Bool.false_and]
          refine Ev.step (f := fun _ => some false) (fun k => ?_) (Ev.now _)
          simp only [impl_partOK.l0, let_i, dig_i, Option.bind_some, hw, h1, h2]; rw [if_pos (by omega), if_pos (by omega), if_pos (by omega), if_neg (by simp), if_neg (by simp), if_neg h3]
theorem part_ev (s : ByteArray) (hs : s.size ≤ 1048576) : Ev (fun k => impl_partOK.f k s) (pok s) :=
  Ev.congr (fun k => by unfold impl_partOK.f; rfl) (part_l0 s hs s.size 0 (by omega))
theorem rdP (L : List ByteArray) (q : Nat) (h : q < L.length) : rdOf ByteArray.empty L (q : Int) = L[q] := by
  simp [rdOf, List.getD_eq_getElem?_getD, h]
theorem sp_l1 (L : List ByteArray) (hL : L.length ≤ 1048577) (q : Nat) (hq : q < L.length) (hs : (L[q]).size ≤ 1048576) (r : Bool) (h : Ev (fun k => spec_DnsNameOK.l0 k L ((q + 1 : Nat) : Int)) r) (d : Nat) : ∀ j : Nat, j + d = (L[q]).size → Ev (fun k => spec_DnsNameOK.l1 k L (q : Int) (j : Int)) (if okFrom (L[q]) j d = true then r else false) := by
  have hw : wrap64 ((q : Int) + 1) = ((q + 1 : Nat) : Int) := by rw [wrap64_id (by omega) (by omega)]; omega
  induction d with
  | zero =>
    intro j hj
    rw [show okFrom (L[q]) j 0 = true from rfl, if_pos rfl]
    refine Ev.step (fun k => ?_) h
    simp only [spec_DnsNameOK.l1, rdP L q hq, hw]; rw [if_pos (by omega), if_pos (by omega), if_neg (by omega)]
  | succ d ih =>
    intro j hj
    have hw2 : wrap64 ((j : Int) + 1) = ((j + 1 : Nat) : Int) := by rw [wrap64_id (by omega) (by omega)]; omega
    have h4 := ih (j + 1) (by omega)
    unfold okFrom okb
    cases h1 : letv (bt (L[q]) (j : Int)) with
    | true =>
      rw [Bool.true_or, Bool.true_and]
      refine Ev.step (fun k => ?_) h4
      simp only [spec_DnsNameOK.l1, rdP L q hq, let_s, dig_s, Option.bind_some, hw2, h1]; rw [if_pos (by omega), if_pos (by omega), if_pos (by omega), if_pos (by omega), if_pos trivial]
    | false =>
      rw [Bool.false_or]
      cases h2 : digv (bt (L[q]) (j : Int)) with
      | true =>
        rw [Bool.true_or, Bool.true_and]
        refine Ev.step (fun k => ?_) h4
        simp only [spec_DnsNameOK.l1, rdP L q hq, let_s, dig_s, Option.bind_some, hw2, h1, h2]; rw [if_pos (by omega), if_pos (by omega), if_pos (by omega), if_pos (by omega), if_neg (by simp), if_pos trivial]
      | false =>
        rw [Bool.false_or]
        by_cases h3 : bt (L[q]) (j : Int) = 45
        · rw [decide_eq_true h3, Bool.true_and]
          refine Ev.step (fun k => ?_) h4
          simp only [spec_DnsNameOK.l1, rdP L q hq, let_s, dig_s, Option.bind_some, hw2, h1, h2]; rw [if_pos (by omega), if_pos (by omega), if_pos (by omega), if_pos (by omega), if_neg (by simp), if_neg (by simp), if_pos h3]
        · rw [decide_eq_false h3, Bool.false_and, if_neg (by simp)]
          refine Ev.step (f := fun _ => some false) (fun k => ?_) (Ev.now _)
          simp only [spec_DnsNameOK.l1, rdP L q hq, let_s, dig_s, Option.bind_some, hw2, h1, h2]; rw [if_pos (by omega), if_pos (by omega), if_pos (by omega), if_pos (by omega), if_neg (by simp), if_neg (by simp), if_neg h3]
theorem sp_l0 (L : List ByteArray) (hL : L.length ≤ 1048577) (hs : ∀ x ∈ L, x.size ≤ 1048576) (d : Nat) : ∀ q : Nat, q + d = L.length → Ev (fun k => spec_DnsNameOK.l0 k L (q : Int)) ((L.drop q).all pok) := by
  induction d with
  | zero =>
    intro q hq
    rw [List.drop_eq_nil_of_le (by omega)]
    refine Ev.step (f := fun _ => some true) (fun k => ?_) (Ev.now _)
    simp only [spec_DnsNameOK.l0]; rw [if_neg (by omega)]
  | succ d ih =>
    intro q hq
    have hq' : q < L.length := by omega
    have h := sp_l1 L hL q hq' (hs _ (List.getElem_mem hq')) _ (ih (q + 1) (by omega)) (L[q]).size 0 (by omega)
    rw [List.drop_eq_getElem_cons hq', List.all_cons]
    unfold pok at h ⊢
    cases hz : sz20 L[q] with
    | true =>
      rw [Bool.and_true]
      have e : (if okFrom L[q] 0 (L[q]).size = true then ((L.drop (q + 1)).all fun s => okFrom s 0 s.size && sz20 s) else false) = (okFrom L[q] 0 (L[q]).size && ((L.drop (q + 1)).all fun s => okFrom s 0 s.size && sz20 s)) := by
        cases okFrom L[q] 0 (L[q]).size <;> rfl
      refine Ev.step (fun k => ?_) (e ▸ h)
      simp only [spec_DnsNameOK.l0, rdP L q hq', in_s, Option.bind_some, hz]; rw [if_pos (by omega), if_pos (by omega), if_pos trivial]; rfl
    | false =>
      rw [Bool.and_false, Bool.false_and]
      refine Ev.step (f := fun _ => some false) (fun k => ?_) (Ev.now _)
      simp only [spec_DnsNameOK.l0, rdP L q hq', in_s, Option.bind_some, hz]; rw [if_pos (by omega), if_pos (by omega), if_neg (by simp)]
theorem pieces_length (s : ByteArray) : (pieces s).length = Lib.countB s ⟨#[46]⟩ + 1 := Lib.splitB_all ⟨#[46]⟩ (by decide) 0 _ s rfl
theorem spec_ev (s : ByteArray) (hs : s.size ≤ 1048576) : Ev (fun k => spec_DnsNameOK.f k s) (dnsv pok s) := by
  have hl : (pieces s).length ≤ 1048577 := by
    have := Lib.countB_le ⟨#[46]⟩ (by decide) s.size s (Nat.le_refl _)
    rw [pieces_length]; omega
  unfold dnsv
  by_cases h1 : (s.size : Int) > 65536
  · rw [if_pos (by omega)]
    exact Ev.congr (f := fun _ => some false) (fun k => by unfold spec_DnsNameOK.f; rw [if_pos h1]) (Ev.now _)
  · refine Ev.congr (fun k => by unfold spec_DnsNameOK.f; rw [if_neg h1]) (Ev.bind (cut_ev s hs) ?_)
    by_cases h2 : (s.size : Int) > 80
    · rw [if_pos h2]
      refine Ev.congr (fun k => by rw [if_pos h2]) (Ev.step (f := fun _ => some false) (fun k => ?_) (Ev.now _))
      simp only [spec_DnsNameOK.j0]; rw [if_pos trivial]
    · rw [if_neg h2]
      refine Ev.congr (fun k => by rw [if_neg h2]) ?_
      by_cases h3 : (pieces s).length ≤ 8
      · rw [decide_eq_true h3, Bool.true_and, decide_eq_false (by omega)]
        have h := sp_l0 (pieces s) hl (fun x hx => Nat.le_trans (piece_size s x hx) hs) (pieces s).length 0 (by omega)
        rw [List.drop_zero] at h
        refine Ev.step (fun k => ?_) h
        simp only [spec_DnsNameOK.j0]; rw [if_neg (by simp)]; rfl
      · rw [decide_eq_false h3, Bool.false_and, decide_eq_true (by omega)]
        refine Ev.step (f := fun _ => some false) (fun k => ?_) (Ev.now _)
        simp only [spec_DnsNameOK.j0]; rw [if_pos trivial]
/-! ### what may be asked for -/
theorem allOK_ev (l : List ByteArray) (hs : ∀ x ∈ l, x.size ≤ 1048576) : Ev (fun k => allOK k l) (l.map pok) := by
  induction l with
  | nil => exact Ev.congr (f := fun _ => some []) (fun k => rfl) (Ev.now _)
  | cons x xs ih =>
    refine Ev.congr (fun k => by unfold allOK; rfl) (Ev.bind (part_ev x (hs x (by simp))) ?_)
    exact Ev.bind (ih (fun y hy => hs y (by simp [hy]))) (Ev.now _)
theorem impl_dns_ev (s : ByteArray) (hs : s.size ≤ 1048576) : Ev (fun k => impl_DnsNameOK.f k s) (dnsv pok s) := by
  unfold dnsv
  by_cases h : (s.size : Int) > 80
  · rw [if_pos h]
    exact Ev.congr (f := fun _ => some false) (fun k => by unfold impl_DnsNameOK.f; rw [if_pos h]) (Ev.now _)
  · rw [if_neg h]
    refine Ev.congr (fun k => by unfold impl_DnsNameOK.f; rw [if_neg h]) (Ev.bind (allOK_ev (pieces s) (fun x hx => Nat.le_trans (piece_size s x hx) hs)) ?_)
    exact Ev.congr (f := fun _ => some _) (fun k => by rw [List.all_map]; rfl) (Ev.now _)
theorem impl_ok_ev (id ty : Int) (b : Bool) (s : ByteArray) (hs : s.size ≤ 1048576) : Ev (fun k => impl_dnsOK.f k id ty b s) (decide (0 ≤ id ∧ id ≤ 65535) && (decide (0 ≤ ty ∧ ty ≤ 65535) && dnsv pok s)) := by
  have w : ∀ a : Int, impl_isPort.f a = some (decide (0 ≤ a ∧ a ≤ 65535)) := fun a => by
    unfold impl_isPort.f impl_within.f
    by_cases h : a ≥ 0
    · rw [if_pos h, Option.bind_some]; congr 1; apply decide_eq_decide.2; omega
    · rw [if_neg h, Option.bind_some]; congr 1; symm; apply decide_eq_false; omega
  cases h1 : decide (0 ≤ id ∧ id ≤ 65535) with
  | false => exact Ev.congr (f := fun _ => some false) (fun k => by unfold impl_dnsOK.f; rw [w, Option.bind_some, h1, if_neg (by simp)]) (Ev.now _)
  | true =>
    cases h2 : decide (0 ≤ ty ∧ ty ≤ 65535) with
    | false => exact Ev.congr (f := fun _ => some false) (fun k => by unfold impl_dnsOK.f; rw [w, Option.bind_some, h1, if_pos rfl, w, Option.bind_some, h2, if_neg (by simp)]) (Ev.now _)
    | true =>
      rw [Bool.true_and, Bool.true_and]
      refine Ev.congr (fun k => by unfold impl_dnsOK.f; rw [w, Option.bind_some, h1, if_pos rfl, w, Option.bind_some, h2, if_pos rfl]) (Ev.bind (impl_dns_ev s hs) (Ev.now _))
theorem spec_ok_ev (id ty : Int) (b : Bool) (s : ByteArray) (hs : s.size ≤ 1048576) : Ev (fun k => spec_l03Dns.f k id ty b s) (decide (0 ≤ id ∧ id ≤ 65535) && (decide (0 ≤ ty ∧ ty ≤ 65535) && dnsv pok s)) := by
  have w : ∀ a : Int, spec_l01In.f a 0 65535 = some (decide (0 ≤ a ∧ a ≤ 65535)) := fun a => by
    unfold spec_l01In.f
    by_cases h : 0 ≤ a
    · rw [if_pos h]; congr 1; apply decide_eq_decide.2; omega
    · rw [if_neg h]; congr 1; symm; apply decide_eq_false; omega
  cases h1 : decide (0 ≤ id ∧ id ≤ 65535) with
  | false => exact Ev.congr (f := fun _ => some false) (fun k => by unfold spec_l03Dns.f; rw [w, Option.bind_some, h1, if_neg (by simp)]) (Ev.now _)
  | true =>
    cases h2 : decide (0 ≤ ty ∧ ty ≤ 65535) with
    | false => exact Ev.congr (f := fun _ => some false) (fun k => by unfold spec_l03Dns.f; rw [w, Option.bind_some, h1, if_pos rfl, w, Option.bind_some, h2, if_neg (by simp)]) (Ev.now _)
    | true =>
      rw [Bool.true_and, Bool.true_and]
      refine Ev.congr (fun k => by unfold spec_l03Dns.f; rw [w, Option.bind_some, h1, if_pos rfl, w, Option.bind_some, h2, if_pos rfl]) (Ev.bind (spec_ev s hs) (Ev.now _))
theorem dnsv_ok (s : ByteArray) (h : dnsv pok s = true) : (pieces s).length ≤ 8 ∧ (∀ x ∈ pieces s, x.size ≤ 20) ∧ s.size ≤ 80 := by
  unfold dnsv at h
  by_cases c : (s.size : Int) > 80
  · rw [if_pos c] at h; cases h
  · rw [if_neg c, Bool.and_eq_true, List.all_eq_true] at h
    refine ⟨of_decide_eq_true h.1, fun x hx => ?_, by omega⟩
    have := h.2 x hx
    unfold pok sz20 at this
    rw [Bool.and_eq_true] at this
    have := of_decide_eq_true this.2
    omega
-- SAYS: ReadDns: a question for a name is read alike: the program cuts the row behind each label and joins the labels at the end, the reference walks by a place and lays the name together on its way.
-- USES: Bytes Wire Eq Num StrB Cut Dns
-- IMPORTS: Derived.Lib.SplitLaws Derived.Lib.CountLaws Derived.Lib.IndexBytes Derived.Lib.CutLaws Derived.Lib.Join
abbrev Dn := Int × Int × Bool × ByteArray × Int
abbrev noDn : Dn := (0, 0, false, ⟨#[]⟩, 3)
def okd (id ty : Int) (s : ByteArray) : Bool := decide (0 ≤ id ∧ id ≤ 65535) && (decide (0 ≤ ty ∧ ty ≤ 65535) && dnsv pok s)
def fin (l : List Int) (id : Int) (ans : Bool) : Option (ByteArray × Nat) → Dn
  | none => noDn
  | some (nm, q) => if l.length < q + 4 then noDn else if num ((l.take (q + 4)).drop (q + 2)) ≠ 1 then noDn else if okd id (num ((l.take (q + 2)).drop q)) nm = true then (id, num ((l.take (q + 2)).drop q), ans, nm, 0) else noDn
def lab (l : List Int) : Option (ByteArray × Nat) → ByteArray × List Int × Bool
  | none => (⟨#[]⟩, [], false)
  | some (nm, q) => (nm, l.drop q, true)
/-! ### the labels joined -/
def joinB (P : List ByteArray) : ByteArray := ⟨(Lib.join (P.map (·.data.toList)) [46]).toArray⟩
theorem join_snoc (X : List (List UInt8)) (y : List UInt8) (h : X ≠ []) : Lib.join (X ++ [y]) [46] = Lib.join X [46] ++ ([46] ++ y) := by
  cases X with
  | nil => exact absurd rfl h
  | cons x r =>
    rw [List.cons_append, Lib.join_cons, Lib.join_cons]
    simp [Lib.joinTail, List.append_assoc]
theorem joinB_one (x : ByteArray) : joinB [x] = x := by
  apply toList_inj
  rw [toList_data, toList_data]
  simp [joinB, Lib.join_one]
theorem joinB_snoc (P : List ByteArray) (x : ByteArray) (h : P ≠ []) : joinB (P ++ [x]) = (joinB P ++ (⟨#[46]⟩ : ByteArray)) ++ x := by
  apply toList_inj
  rw [toList_data, toList_data, ByteArray.data_append, Array.toList_append, ByteArray.data_append, Array.toList_append]
  simp only [joinB, List.map_append, List.map_cons, List.map_nil]
  rw [join_snoc _ _ (by simpa using h)]
  simp
theorem joinB_ev (P : List ByteArray) (h1 : P.length ≤ 1000000) (h2 : (joinB P).size ≤ 1048576) : strings_Join.f P (⟨#[46]⟩ : ByteArray) = some (joinB P) := by
  unfold strings_Join.f
  by_cases h : P.length = 0
  · obtain rfl := List.length_eq_zero_iff.1 h
    rw [if_pos h]; rfl
  · have h3 : (Lib.join (P.map (·.data.toList)) (⟨#[46]⟩ : ByteArray).data.toList).length ≤ 140737488355328 := by
      have : (joinB P).size = (Lib.join (P.map (·.data.toList)) [46]).length := by simp [joinB, ByteArray.size]
      show (Lib.join (P.map (·.data.toList)) [46]).length ≤ _
      omega
    rw [if_neg h, if_pos h1, if_pos h3]; rfl
theorem rd_drop (l : List Int) (a j : Nat) : rd (l.drop a) (j : Int) = rd l ((a + j : Nat) : Int) := by
  rw [rd_nat, rd_nat, List.getD_eq_getElem?_getD, List.getD_eq_getElem?_getD, List.getElem?_drop]
theorem fin_ev (l : List Int) (hB : Bytes l) (hl : l.length ≤ 65536) (id : Int) (ans : Bool) (nm : ByteArray) (hn : nm.size ≤ 1048576) (q : Nat) (hq : q ≤ l.length) : Ev (fun k => if wrap64 ((q : Int) + 4) > (l.length : Int) then spec_l03ReadDns.j3 k (strOfNums l) (q : Int) true id 0 ans nm else (if 0 ≤ wrap64 ((q : Int) + 2) then (if wrap64 ((q : Int) + 2) ≤ wrap64 ((q : Int) + 4) then (if wrap64 ((q : Int) + 4) ≤ (l.length : Int) then ((spec_l01Of.f k ((strOfNums l).extract (wrap64 ((q : Int) + 2)).toNat (wrap64 ((q : Int) + 4)).toNat)).bind fun t132 => spec_l03ReadDns.j3 k (strOfNums l) (q : Int) (t132 != 1) id 0 ans nm) else none) else none) else none)) (fin l id ans (some (nm, q))) := by
  have w2 : wrap64 ((q : Int) + 2) = ((q + 2 : Nat) : Int) := by rw [wrap64_id (by omega) (by omega)]; omega
  have w4 : wrap64 ((q : Int) + 4) = ((q + 4 : Nat) : Int) := by rw [wrap64_id (by omega) (by omega)]; omega
  simp only [fin]
  by_cases h : l.length < q + 4
  · rw [if_pos h]
    refine Ev.congr (fun k => by rw [w4, if_pos (by omega)]) ?_
    exact Ev.step (f := fun _ => some _) (fun k => by simp only [spec_l03ReadDns.j3]; rw [if_pos trivial]) (Ev.now _)
  · rw [if_neg h]
    have hs := spec_of_ev ((l.take (q + 4)).drop (q + 2)) (bytes_drop (bytes_take hB _) _) (by simp; omega)
    have ht := spec_of_ev ((l.take (q + 2)).drop q) (bytes_drop (bytes_take hB _) _) (by simp; omega)
    refine Ev.congr (fun k => by rw [w2, w4, if_neg (by omega), if_pos (by omega), if_pos (by omega), if_pos (by omega), Int.toNat_natCast, Int.toNat_natCast, str_cut]) (Ev.bind hs ?_)
    by_cases h1 : num ((l.take (q + 4)).drop (q + 2)) = 1
    · rw [if_neg (by simpa using h1)]
      have hb : (num ((l.take (q + 4)).drop (q + 2)) != 1) = false := by simp [h1]
      rw [hb]
      refine Ev.step (fun k => by simp only [spec_l03ReadDns.j3, str_size, w2, Int.toNat_natCast, str_cut]; rw [if_neg (by simp), if_pos (by omega), if_pos (by omega), if_pos (by omega)]) ?_
      refine Ev.bind ht (Ev.bind (spec_ok_ev id _ ans nm hn) (Ev.congr (f := fun _ => some _) (fun k => ?_) (Ev.now _)))
      unfold okd
      split <;> rfl
    · rw [if_pos (by simpa using h1)]
      have hb : (num ((l.take (q + 4)).drop (q + 2)) != 1) = true := by simp [h1]
      rw [hb]
      exact Ev.step (f := fun _ => some _) (fun k => by simp only [spec_l03ReadDns.j3]; rw [if_pos trivial]) (Ev.now _)
set_option maxHeartbeats 2000000 in
theorem labels (l : List Int) (hB : Bytes l) (hl : l.length ≤ 65536) (id : Int) (ans : Bool) (d : Nat) : ∀ (a : Nat) (P : List ByteArray), a ≤ l.length → l.length - a ≤ d → P.length ≤ a → (joinB P).size ≤ a → (P = [] ↔ (joinB P).toList = []) → ∃ res : Option (ByteArray × Nat), (∀ nm q, res = some (nm, q) → nm.size ≤ 1048576 ∧ q ≤ l.length) ∧ Ev (fun k => impl_readLabels.l0 k (l.drop a) P) (lab l res) ∧ Ev (fun k => spec_l03ReadDns.l0 k (strOfNums l) (a : Int) id 0 ans (joinB P)) (fin l id ans res) := by
  have hs : (strOfNums l).size = l.length := str_size l
  induction d with
  | zero =>
    intro a P ha hd _ _ _
    have he : l.drop a = [] := List.drop_eq_nil_of_le (by omega)
    refine ⟨none, (by intro _ _ h; cases h), ?_, ?_⟩
    · rw [he]
      exact Ev.step (fun k => by simp only [impl_readLabels.l0, List.length_nil]; rw [if_neg (by omega)]) (Ev.step (f := fun _ => some _) (fun k => by simp only [impl_readLabels.j1, List.length_nil]; rw [if_neg (by simp), if_pos (by omega)]; rfl) (Ev.now _))
    · exact Ev.step (f := fun _ => some _) (fun k => by simp only [spec_l03ReadDns.l0, hs]; rw [if_pos (by omega)]; rfl) (Ev.now _)
  | succ d ih =>
    intro a P ha hd hP hj he
    by_cases hend : a = l.length
    · have he : l.drop a = [] := List.drop_eq_nil_of_le (by omega)
      refine ⟨none, (by intro _ _ h; cases h), ?_, ?_⟩
      · rw [he]
        exact Ev.step (fun k => by simp only [impl_readLabels.l0, List.length_nil]; rw [if_neg (by omega)]) (Ev.step (f := fun _ => some _) (fun k => by simp only [impl_readLabels.j1, List.length_nil]; rw [if_neg (by simp), if_pos (by omega)]; rfl) (Ev.now _))
      · exact Ev.step (f := fun _ => some _) (fun k => by simp only [spec_l03ReadDns.l0, hs]; rw [if_pos (by omega)]; rfl) (Ev.now _)
    · have hdl : (l.drop a).length = l.length - a := List.length_drop
      obtain ⟨n, hn⟩ : ∃ n : Nat, rd l (a : Int) = (n : Int) := ⟨(rd l (a : Int)).toNat, by have := rd_byte hB a; omega⟩
      have hn2 : n < 256 := by have := rd_byte hB a; omega
      have r0 : rd (l.drop a) 0 = (n : Int) := by
        have := rd_drop l a 0
        rw [Nat.add_zero, hn] at this; exact this
      have b0 : bt (strOfNums l) (a : Int) = (n : Int) := (str_bt hB a).trans hn
      have wn : Aside0 (wrap64 (n : Int) = (n : Int)) := ⟨wrap64_id (by omega) (by omega)⟩
      have wa : Aside0 (wrap64 ((a : Int) + 1) = ((a + 1 : Nat) : Int)) := ⟨by rw [wrap64_id (by omega) (by omega)]; omega⟩
      have wan : Aside0 (wrap64 (((a + 1 : Nat) : Int) + (n : Int)) = ((a + 1 + n : Nat) : Int)) := ⟨by rw [wrap64_id (by omega) (by omega)]; omega⟩
      have w1n : Aside0 (wrap64 (1 + (n : Int)) = ((1 + n : Nat) : Int)) := ⟨by rw [wrap64_id (by omega) (by omega)]; omega⟩
      by_cases hz : n = 0
      · subst hz
        refine ⟨some (joinB P, a + 1), fun nm q h => by injection h with h; injection h with h1 h2; subst h1; subst h2; exact ⟨by omega, by omega⟩, ?_, ?_⟩
        · refine Ev.step (fun k => by simp only [impl_readLabels.l0, hdl, r0]; rw [if_pos (by omega), if_pos (by omega)]) ?_
          refine Ev.step (f := fun _ => some _) (fun k => ?_) (Ev.now _)
          simp only [impl_readLabels.j1, hdl]
          rw [if_neg (by simp), if_neg (by omega), joinB_ev P (by omega) (by omega), Option.bind_some, if_pos (by omega), List.drop_drop]; rfl
        · refine Ev.step (fun k => ?_) (fin_ev l hB hl id ans (joinB P) (by omega) (a + 1) (by omega))
          simp only [spec_l03ReadDns.l0, hs, b0, wn.out, wa.out]
          rw [if_neg (by omega), if_pos (by omega), if_pos (by omega), if_pos (by omega)]
      · have hi0 : ∀ r, Ev (fun k => impl_readLabels.j1 k (l.drop a) P true) r → Ev (fun k => impl_readLabels.l0 k (l.drop a) P) r := fun r h => by
          refine Ev.step (fun k => ?_) h
          simp only [impl_readLabels.l0, hdl, r0]
          rw [if_pos (by omega), if_pos (by omega), decide_eq_true (by omega)]
        by_cases hbig : n > 63 ∨ a + 1 + n > l.length
        · refine ⟨none, (by intro _ _ h; cases h), hi0 _ ?_, ?_⟩
          · refine Ev.step (f := fun _ => some _) (fun k => ?_) (Ev.now _)
            simp only [impl_readLabels.j1, hdl, r0, wn.out]
            rw [if_pos trivial, if_pos (by omega)]
            by_cases h1 : n > 63
            · rw [if_pos (by omega)]; rfl
            · rw [if_neg (by omega), if_pos (by omega)]; rfl
          · have hj2 : Ev (fun k => spec_l03ReadDns.j2 k (strOfNums l) ((a + 1 : Nat) : Int) (n : Int) true id 0 ans (joinB P)) noDn := Ev.step (f := fun _ => some _) (fun k => by simp only [spec_l03ReadDns.j2]; rw [if_pos trivial]) (Ev.now _)
            refine Ev.step (fun k => ?_) hj2
            simp only [spec_l03ReadDns.l0, hs, b0, wn.out, wa.out, wan.out]
            rw [if_neg (by omega), if_pos (by omega), if_pos (by omega), if_neg (by omega)]
            by_cases h1 : n > 63
            · rw [if_pos (by omega)]
            · rw [if_neg (by omega), decide_eq_true (by omega)]
        · have hpart : strOfNums (((l.drop a).take (1 + n)).drop 1) = (strOfNums l).extract (a + 1) (a + 1 + n) := by
            rw [str_cut]; congr 1
            rw [List.take_drop, List.drop_drop]; congr 2; omega
          obtain ⟨x, hx⟩ : ∃ x, (strOfNums l).extract (a + 1) (a + 1 + n) = x := ⟨_, rfl⟩
          have hxs : x.size = n := by rw [← hx, ByteArray.size_extract, hs]; omega
          have hxn : x.toList ≠ [] := fun h => by
            have := toList_length x
            rw [h] at this; simp at this; omega
          have hnext : (joinB (P ++ [x])).size ≤ a + 1 + n ∧ (P ++ [x] = [] ↔ (joinB (P ++ [x])).toList = []) := by
            by_cases hP0 : P = []
            · subst hP0
              rw [List.nil_append, joinB_one]
              exact ⟨by omega, ⟨fun h => by simp at h, fun h => absurd h hxn⟩⟩
            · rw [joinB_snoc P x hP0]
              refine ⟨by simp only [ByteArray.size_append, hxs]; show (joinB P).size + 1 + n ≤ _; omega, ⟨fun h => by simp at h, fun h => ?_⟩⟩
              have := toList_length ((joinB P ++ (⟨#[46]⟩ : ByteArray)) ++ x)
              rw [h] at this
              simp only [ByteArray.size_append, hxs, List.length_nil] at this; omega
          obtain ⟨res, h1, h2, h3⟩ := ih (a + 1 + n) (P ++ [x]) (by omega) (by omega) (by simp; omega) hnext.1 hnext.2
          refine ⟨res, h1, hi0 _ ?_, ?_⟩
          · refine Ev.step (fun k => ?_) h2
            simp only [impl_readLabels.j1, hdl, r0, wn.out, w1n.out, Int.toNat_natCast]
            rw [if_pos trivial, if_pos (by omega), if_neg (by omega), if_neg (by omega), if_pos (by omega), if_pos (by omega), if_pos (by omega), if_pos (by omega), hpart, hx, List.drop_drop, Nat.add_assoc]
          · refine Ev.step (f := fun k => spec_l03ReadDns.j2 k (strOfNums l) ((a + 1 : Nat) : Int) (n : Int) false id 0 ans (joinB P)) (fun k => ?_) (Ev.step (fun k => ?_) h3)
            · simp only [spec_l03ReadDns.l0, hs, b0, wn.out, wa.out, wan.out]
              rw [if_neg (by omega), if_pos (by omega), if_pos (by omega), if_neg (by omega), if_neg (by omega), decide_eq_false (by omega)]
            · have e1 : (⟨#[46]⟩ : ByteArray).size = 1 := rfl
              simp only [spec_l03ReadDns.j2, hs, wan.out, Int.toNat_natCast, hx]
              rw [if_neg (by simp)]
              by_cases hP0 : P = []
              · rw [if_pos (he.1 hP0), if_pos (by omega), if_pos (by omega), if_pos (by omega), if_pos (by omega)]
                subst hP0
                have e0 : joinB ([] : List ByteArray) ++ x = joinB ([] ++ [x]) := by
                  rw [List.nil_append, joinB_one]
                  apply toList_inj
                  rw [toList_data, toList_data, ByteArray.data_append, Array.toList_append]; rfl
                rw [e0]
              · rw [if_neg (fun h => hP0 (he.2 h)), if_pos (by omega), if_pos (by omega), if_pos (by omega), if_pos (by omega), if_pos (by rw [ByteArray.size_append, e1]; omega), joinB_snoc P x hP0]
set_option maxHeartbeats 2000000 in
theorem readDns_both (l : List Int) (hB : Bytes l) (hl : l.length ≤ 65536) : ∃ r : Dn, Ev (fun k => spec_l03ReadDns.f k (strOfNums l)) r ∧ Ev (fun k => impl_readDns.f k l) r := by
  have hs : (strOfNums l).size = l.length := str_size l
  have no : Ev (fun k => spec_l03ReadDns.j0 k (strOfNums l) true) noDn ∧ Ev (fun k => impl_readDns.j0 k l true) noDn := ⟨Ev.step (f := fun _ => some _) (fun k => by simp only [spec_l03ReadDns.j0]; rw [if_pos trivial]) (Ev.now _), Ev.step (f := fun _ => some _) (fun k => by simp only [impl_readDns.j0]; rw [if_pos trivial]) (Ev.now _)⟩
  by_cases h0 : l.length < 12
  · exact ⟨noDn, Ev.congr (fun k => by unfold spec_l03ReadDns.f; rw [hs, if_pos (by omega)]) no.1, Ev.congr (fun k => by unfold impl_readDns.f; rw [if_pos (by omega)]) no.2⟩
  · have nS := spec_of_ev ((l.take 6).drop 4) (bytes_drop (bytes_take hB _) _) (by simp; omega)
    have nI := impl_num_ev ((l.take 6).drop 4) (bytes_drop (bytes_take hB _) _) (by simp; omega)
    have hS : ∀ r, Ev (fun k => spec_l03ReadDns.j0 k (strOfNums l) (num ((l.take 6).drop 4) != 1)) r → Ev (fun k => spec_l03ReadDns.f k (strOfNums l)) r := fun r h => Ev.congr (fun k => by unfold spec_l03ReadDns.f; rw [hs, if_neg (by omega), if_pos (by omega), if_pos (by omega), str_cut]) (Ev.bind nS h)
    have hI : ∀ r, Ev (fun k => impl_readDns.j0 k l (num ((l.take 6).drop 4) != 1)) r → Ev (fun k => impl_readDns.f k l) r := fun r h => Ev.congr (fun k => by unfold impl_readDns.f; rw [if_neg (by omega), if_pos (by omega), if_pos (by omega)]) (Ev.bind nI h)
    by_cases h1 : num ((l.take 6).drop 4) = 1
    · have hb : (num ((l.take 6).drop 4) != 1) = false := by simp [h1]
      rw [hb] at hS hI
      have dS := spec_of_ev (l.take 2) (bytes_take hB _) (by simp; omega)
      have dS' : Ev (fun k => spec_l01Of.f k ((strOfNums l).extract 0 2)) (num (l.take 2)) := Ev.congr (fun k => by rw [str_cut, List.drop_zero]) dS
      have dI := impl_num_ev (l.take 2) (bytes_take hB _) (by simp; omega)
      have b2 : bt (strOfNums l) 2 = rd l 2 := str_bt hB 2
      obtain ⟨res, hr, hi, hsp⟩ := labels l hB hl (num (l.take 2)) (decide (rd l 2 ≥ 128)) (l.length - 12) 12 [] (by omega) (by omega) (by simp) (by decide +kernel) ⟨fun _ => by decide +kernel, fun _ => rfl⟩
      refine ⟨_, hS _ (Ev.step (fun k => by simp only [spec_l03ReadDns.j0, hs]; rw [if_neg (by simp), if_pos (by omega), if_pos (by omega)]) (Ev.bind dS' (Ev.congr (fun k => by rw [if_pos (by omega), b2]; rfl) hsp))), hI _ ?_⟩
      refine Ev.step (fun k => by simp only [impl_readDns.j0]; rw [if_neg (by simp), if_pos (by omega)]) (Ev.bind (Ev.congr (fun k => by unfold impl_readLabels.f; rfl) hi) ?_)
      have bad : ∀ (nm : ByteArray) (rest : List Int), Ev (fun k => impl_readDns.j1 k l nm rest true) noDn := fun nm rest => Ev.step (f := fun _ => some _) (fun k => by simp only [impl_readDns.j1]; rw [if_pos trivial]) (Ev.now _)
      cases res with
      | none =>
        have el : lab l none = (⟨#[]⟩, [], false) := rfl
        rw [el]
        exact Ev.congr (fun k => by rw [if_neg (by simp)]) (bad ⟨#[]⟩ [])
      | some p =>
        obtain ⟨nm, q⟩ := p
        obtain ⟨hn, hq⟩ := hr nm q rfl
        have hdl : (l.drop q).length = l.length - q := List.length_drop
        have c4 : ((l.drop q).take 4).drop 2 = (l.take (q + 4)).drop (q + 2) := by rw [List.take_drop, List.drop_drop]
        have c2 : (l.drop q).take 2 = (l.take (q + 2)).drop q := by rw [List.take_drop]
        have el : lab l (some (nm, q)) = (nm, l.drop q, true) := rfl
        rw [el]
        simp only [fin]
        by_cases h4 : l.length < q + 4
        · rw [if_pos h4]
          exact Ev.congr (fun k => by rw [if_pos trivial, if_pos (show ((l.drop q).length : Int) < 4 by rw [hdl]; omega)]) (bad _ _)
        · rw [if_neg h4]
          have tI := impl_num_ev ((l.take (q + 4)).drop (q + 2)) (bytes_drop (bytes_take hB _) _) (by simp; omega)
          have yI := impl_num_ev ((l.take (q + 2)).drop q) (bytes_drop (bytes_take hB _) _) (by simp; omega)
          refine Ev.congr (fun k => by rw [if_pos trivial, if_neg (show ¬ ((l.drop q).length : Int) < 4 by rw [hdl]; omega), if_pos (by omega), if_pos (show 4 ≤ ((l.drop q).length : Int) by rw [hdl]; omega), c4]) (Ev.bind tI ?_)
          by_cases h5 : num ((l.take (q + 4)).drop (q + 2)) = 1
          · rw [if_neg (by simpa using h5)]
            have hb : (num ((l.take (q + 4)).drop (q + 2)) != 1) = false := by simp [h5]
            rw [hb]
            refine Ev.step (fun k => by simp only [impl_readDns.j1, hdl, c2]; rw [if_neg (by simp), if_pos (by omega)]) (Ev.bind dI (Ev.congr (fun k => by rw [if_pos (by omega)]) (Ev.bind yI (Ev.congr (fun k => by rw [if_pos (by omega)]) (Ev.bind (impl_ok_ev _ _ _ nm hn) (Ev.congr (f := fun _ => some _) (fun k => ?_) (Ev.now _)))))))
            unfold okd
            split <;> rfl
          · rw [if_pos (by simpa using h5)]
            have hb : (num ((l.take (q + 4)).drop (q + 2)) != 1) = true := by simp [h5]
            rw [hb]
            exact bad _ _
    · have hb : (num ((l.take 6).drop 4) != 1) = true := by simp [h1]
      rw [hb] at hS hI
      exact ⟨noDn, hS _ no.1, hI _ no.2⟩
theorem FnExactReadDns : laws_FnExactReadDns.Pure := by
  intro l _ _ hw
  have hB := bytes_wf hw
  apply Ev.rounds
  by_cases h0 : (l.length : Int) > 1048576
  · refine Ev.congr (fun k => ?_) (Ev.now true)
    unfold laws_FnExactReadDns.f; rw [if_pos h0]
  · have hl : l.length ≤ 1048576 := by omega
    have hT := toByteS_ev l hl
    have key : ∃ r : Dn, Ev (fun k => spec_ReadDns.f k l) r ∧ Ev (fun k => impl_ReadDns.f k l) r := by
      by_cases h1 : (l.length : Int) > 65536
      · exact ⟨(0, 0, false, ⟨#[]⟩, 2), Ev.congr (f := fun _ => some _) (fun k => by unfold spec_ReadDns.f; rw [if_pos h1]) (Ev.now _), Ev.congr (f := fun _ => some _) (fun k => by unfold impl_ReadDns.f; rw [if_pos h1]) (Ev.now _)⟩
      · obtain ⟨r, hS, hI⟩ := readDns_both l hB (by omega)
        exact ⟨r, Ev.congr (fun k => by unfold spec_ReadDns.f; rw [if_neg h1]) (Ev.bind hS (Ev.now _)), Ev.congr (fun k => by unfold impl_ReadDns.f; rw [if_neg h1]) (Ev.bind hI (Ev.now _))⟩
    obtain ⟨⟨r1, r2, r3, r4, r5⟩, hS, hI⟩ := key
    refine Ev.congr (fun k => by unfold laws_FnExactReadDns.f; rw [if_neg h0]) (Ev.bind hT (Ev.bind hS (Ev.bind hT (Ev.bind hI ?_))))
    have hE : laws_eqDns.f r1 r2 r3 r4 r1 r2 r3 r4 = some true := by
      unfold laws_eqDns.f; rw [if_pos rfl, if_pos rfl, if_neg (by simp), if_pos rfl]
    refine Ev.congr (fun k => by rw [hE, Option.bind_some, if_pos rfl, bne_self_eq_false]) ?_
    refine Ev.step (fun k => by simp only [laws_FnExactReadDns.j0]; rw [if_neg (by simp)]) (Ev.bind hT (Ev.bind (eqByteS_ev l hl) ?_))
    exact Ev.congr (f := fun _ => some true) (fun k => by rw [if_pos rfl]) (Ev.now _)

end Go.Proofs.YtpnbhgoblgbdkaaDoor.Pure
