/- ReadNet: an address, a stroke, a number of bits: cut at the first stroke by the program, at every one by the reference: no number's text has a stroke in it. -/
import Derived.Test.YtpnbhgoblgbdkaaDoorPDn2x4
import Derived.Test.YtpnbhgoblgbdkaaDoorBase
import Derived.Lib.SplitLaws
import Derived.Lib.CountLaws
import Derived.Lib.IndexBytes
import Derived.Lib.CutLaws
import Derived.Lib.ItoaLen
import Derived.Lib.AtoiAllCases
set_option linter.unusedSimpArgs false
set_option linter.unusedVariables false
namespace Go.Proofs.YtpnbhgoblgbdkaaDoor.Pure
open Go.RowKit Go.Proofs.YtpnbhgoblgbdkaaDoor.PDn2 Go.Proofs.YtpnbhgoblgbdkaaDoorW.PrintWords Go.Proofs.YtpnbhgoblgbdkaaDoorW.PrintLast Go.Proofs.YtpnbhgoblgbdkaaDoorW.PrintMore Base

/-! ### rows of bytes and the strings of them -/
def Bytes (l : List Int) : Prop := ∀ x ∈ l, 0 ≤ x ∧ x < 256
theorem bytes_wf {l : List Int} (h : ∀ x ∈ l, (Lit.int .u8 x).wf = true) : Bytes l := fun x hx => wf_u8 (h x hx)
theorem bytes_take {l : List Int} (h : Bytes l) (n : Nat) : Bytes (l.take n) := fun x hx => h x (List.mem_of_mem_take hx)
theorem bytes_drop {l : List Int} (h : Bytes l) (n : Nat) : Bytes (l.drop n) := fun x hx => h x (List.mem_of_mem_drop hx)
theorem rd_nat (l : List Int) (i : Nat) : rd l (i : Int) = l.getD i 0 := by simp [rd]
theorem rd_at (l : List Int) (i : Nat) (h : i < l.length) : rd l (i : Int) = l[i] := by
  rw [rd_nat, List.getD_eq_getElem?_getD, List.getElem?_eq_getElem h]; rfl
theorem rd_byte {l : List Int} (h : Bytes l) (i : Nat) : 0 ≤ rd l (i : Int) ∧ rd l (i : Int) < 256 := by
  by_cases hi : i < l.length
  · rw [rd_at l i hi]; exact h _ (List.getElem_mem hi)
  · rw [rd_nat, List.getD_eq_getElem?_getD, List.getElem?_eq_none (by omega)]; simp
theorem str_bt {l : List Int} (h : Bytes l) (i : Nat) : bt (strOfNums l) (i : Int) = rd l (i : Int) := by
  rw [bt_nat, strOfNums_data, rd_nat, List.getD_eq_getElem?_getD, List.getD_eq_getElem?_getD, List.getElem?_map]
  by_cases hi : i < l.length
  · rw [List.getElem?_eq_getElem hi]
    simp only [Option.map_some, Option.getD_some]
    have := h _ (List.getElem_mem hi)
    rw [UInt8.toNat_ofNat']; omega
  · rw [List.getElem?_eq_none (by omega)]; rfl
theorem str_cut (l : List Int) (a b : Nat) : (strOfNums l).extract a b = strOfNums ((l.take b).drop a) := by
  apply toList_inj
  rw [toList_data, toList_data, strOfNums_data, ByteArray.data_extract, Array.toList_extract, List.extract_eq_take_drop, strOfNums_data, List.map_drop, List.map_take, List.drop_take]
theorem str_size (l : List Int) : (strOfNums l).size = l.length := strOfNums_size l

/-! ### the number of a row of bytes, high byte first -/
def num (l : List Int) : Int := l.foldl (fun n c => n * 256 + c) 0
theorem num_snoc (l : List Int) (c : Int) : num (l ++ [c]) = num l * 256 + c := by simp [num]
theorem num_take (l : List Int) (i : Nat) (h : i < l.length) : num (l.take (i + 1)) = num (l.take i) * 256 + l[i] := by
  rw [List.take_succ_eq_append_getElem h, num_snoc]
theorem num_0 {l : List Int} (h : Bytes l) : ∀ i, i ≤ l.length → 0 ≤ num (l.take i) ∧ num (l.take i) < 256 ^ i := by
  intro i
  induction i with
  | zero => intro _; rw [List.take_zero]; exact ⟨by decide, by decide⟩
  | succ i ih =>
    intro hi
    have h1 := ih (by omega)
    have h2 := h _ (List.getElem_mem (show i < l.length by omega))
    rw [num_take l i (by omega), Int.pow_succ]
    omega
theorem num_6 {l : List Int} (h : Bytes l) (i : Nat) (hi : i ≤ l.length) (h7 : i ≤ 6) : 0 ≤ num (l.take i) ∧ num (l.take i) < 281474976710656 := by
  have h1 := num_0 h i hi
  rcases (show i = 0 ∨ i = 1 ∨ i = 2 ∨ i = 3 ∨ i = 4 ∨ i = 5 ∨ i = 6 by omega) with e | e | e | e | e | e | e <;> rw [e] at h1 ⊢ <;> omega
theorem num_lt {l : List Int} (h : Bytes l) (n : Nat) (hn : l.length = n) : 0 ≤ num l ∧ num l < 256 ^ n := by
  have := num_0 h l.length (Nat.le_refl _)
  rw [List.take_length] at this; rw [hn] at this; exact this

/-! ### the pieces between dots -/
def pieces (s : ByteArray) : List ByteArray := Lib.splitB ⟨#[46]⟩ 0 (Lib.countB s ⟨#[46]⟩) s
theorem conv (t : ByteArray) : Lib.indexB t ⟨#[46]⟩ = Lib.indexByte t.data.toList 46 := Lib.index_one t.data.toList 46
theorem one_miss (t : ByteArray) (h : ∀ j : Nat, t.data.toList[j]? ≠ some 46) : Lib.indexB t ⟨#[46]⟩ = -1 := by
  rcases Lib.indexB_cases t ⟨#[46]⟩ with e | ⟨i, e, _⟩
  · exact e
  · rw [conv] at e
    exact absurd (Lib.indexByte_some e).1 (h i)
theorem one_hit (t : ByteArray) (n : Nat) (h : t.data.toList[n]? = some 46) (hno : ∀ j : Nat, j < n → t.data.toList[j]? ≠ some 46) : Lib.indexB t ⟨#[46]⟩ = n := by
  rcases Lib.indexB_cases t ⟨#[46]⟩ with e | ⟨i, e, _⟩
  · rw [conv] at e
    exact absurd h (Lib.indexByte_none e n)
  · have e2 := e
    rw [conv] at e
    obtain ⟨h1, h2⟩ := Lib.indexByte_some e
    rw [e2]
    rcases Nat.lt_trichotomy i n with q | q | q
    · exact absurd h1 (hno i q)
    · rw [q]
    · exact absurd h (h2 n q)
theorem ex_list (s : ByteArray) (a n : Nat) : (s.extract a n).data.toList = (s.data.toList.take n).drop a := by
  rw [ByteArray.data_extract, Array.toList_extract, List.extract_eq_take_drop, List.drop_take]
theorem ex_ex (s : ByteArray) (a b c : Nat) (h : a + c ≤ s.size) : (s.extract a s.size).extract b c = s.extract (a + b) (a + c) := by
  apply toList_inj
  rw [toList_data, toList_data, ex_list, ex_list, ex_list, List.take_of_length_le (l := s.data.toList) (by rw [data_length]; exact Nat.le_refl _), List.take_drop, List.drop_drop]
theorem bt_46 (s : ByteArray) (i : Nat) : bt s (i : Int) = 46 ↔ s.data.toList[i]? = some 46 := by
  rw [bt_nat]
  by_cases h : i < s.data.toList.length
  · rw [List.getD_eq_getElem?_getD, List.getElem?_eq_getElem h]
    simp only [Option.getD_some, Option.some.injEq]
    constructor
    · intro e
      have : s.data.toList[i].toNat = 46 := by omega
      exact UInt8.toNat_inj.1 this
    · intro e; rw [e]; rfl
  · rw [List.getD_eq_getElem?_getD, List.getElem?_eq_none (by omega)]; simp
def cutFrom (s : ByteArray) (a i : Nat) : Nat → List ByteArray
  | 0 => [s.extract a s.size]
  | d + 1 => if bt s (i : Int) = 46 then s.extract a i :: cutFrom s (i + 1) (i + 1) d else cutFrom s a (i + 1) d
theorem cut_split (s : ByteArray) (d : Nat) : ∀ a i : Nat, a ≤ i → i + d = s.size → (∀ j, a ≤ j → j < i → s.data.toList[j]? ≠ some 46) → cutFrom s a i d = Lib.splitB ⟨#[46]⟩ 0 (Lib.countB (s.extract a s.size) ⟨#[46]⟩) (s.extract a s.size) := by
  have at_ : ∀ a j : Nat, (s.extract a s.size).data.toList[j]? = s.data.toList[a + j]? := fun a j => by
    rw [ex_list, List.take_of_length_le (by rw [data_length]; omega), List.getElem?_drop]
  induction d with
  | zero =>
    intro a i ha hi hno
    have hm := one_miss (s.extract a s.size) (fun j => by
      rw [at_]
      by_cases q : a + j < i
      · exact hno _ (by omega) q
      · rw [List.getElem?_eq_none (by rw [data_length]; omega)]; simp)
    rw [Lib.splitB_miss _ _ _ _ hm]; rfl
  | succ d ih =>
    intro a i ha hi hno
    unfold cutFrom
    by_cases hb : bt s (i : Int) = 46
    · rw [if_pos hb]
      have hh := one_hit (s.extract a s.size) (i - a) (by rw [at_, show a + (i - a) = i by omega]; exact (bt_46 s i).1 hb) (fun j hj => by rw [at_]; exact hno _ (by omega) (by omega))
      have hsz : (s.extract a s.size).size = s.size - a := by simp
      have hr : (s.extract a s.size).extract (i - a + (⟨#[46]⟩ : ByteArray).size) (s.extract a s.size).size = s.extract (i + 1) s.size := by
        rw [hsz, show (⟨#[46]⟩ : ByteArray).size = 1 from rfl, ex_ex s a _ _ (by omega), show a + (i - a + 1) = i + 1 by omega, show a + (s.size - a) = s.size by omega]
      rw [Lib.countB_hit _ _ (i - a) (by decide) hh, hr, Nat.add_comm 1, Lib.splitB_hit _ _ _ _ (i - a) hh, hr, ← ih (i + 1) (i + 1) (Nat.le_refl _) (by omega) (fun j h1 h2 => by omega)]
      rw [ex_ex s a 0 (i - a + 0) (by omega), show a + 0 = a from rfl, show a + (i - a + 0) = i by omega]
    · rw [if_neg hb]
      exact ih a (i + 1) (by omega) (by omega) (fun j h1 h2 => by
        by_cases q : j = i
        · rw [q]; exact fun e => hb ((bt_46 s i).2 e)
        · exact hno j h1 (by omega))
theorem cut_pieces (s : ByteArray) : cutFrom s 0 0 s.size = pieces s := by
  have h := cut_split s s.size 0 0 (Nat.le_refl _) (by omega) (fun j _ h => by omega)
  rw [h]
  have e : s.extract 0 s.size = s := by
    apply toList_inj
    rw [toList_data, toList_data, ex_list, List.drop_zero, List.take_of_length_le (by rw [data_length]; omega)]
  rw [e]; rfl
theorem cut_l0 (s : ByteArray) (hs : s.size ≤ 1048576) (d : Nat) : ∀ (a i : Nat) (x : List ByteArray), a ≤ i → i + d = s.size → x.length ≤ i → Ev (fun k => spec_l00Cut.l0 k s 46 x (a : Int) (i : Int)) (x ++ cutFrom s a i d) := by
  induction d with
  | zero =>
    intro a i x ha hi hx
    refine Ev.step (f := fun _ => some _) (fun k => ?_) (Ev.now _)
    simp only [spec_l00Cut.l0, Int.toNat_natCast]; rw [if_neg (by omega), if_pos (by omega), if_pos (by omega), if_pos (by omega)]; rfl
  | succ d ih =>
    intro a i x ha hi hx
    have hw : wrap64 ((i : Int) + 1) = ((i + 1 : Nat) : Int) := by rw [wrap64_id (by omega) (by omega)]; omega
    unfold cutFrom
    by_cases hb : bt s (i : Int) = 46
    · rw [if_pos hb]
      have h := ih (i + 1) (i + 1) (x ++ [s.extract a i]) (Nat.le_refl _) (by omega) (by simp; omega)
      rw [List.append_assoc] at h
      refine Ev.step (fun k => ?_) h
      simp only [spec_l00Cut.l0, hw, Int.toNat_natCast]; rw [if_pos (by omega), if_pos (by omega), if_pos hb, if_pos (by omega), if_pos (by omega), if_pos (by omega), if_pos (by omega)]
    · rw [if_neg hb]
      refine Ev.step (fun k => ?_) (ih a (i + 1) x (by omega) (by omega) (by omega))
      simp only [spec_l00Cut.l0, hw]; rw [if_pos (by omega), if_pos (by omega), if_neg hb]
theorem cut_ev (s : ByteArray) (hs : s.size ≤ 1048576) : Ev (fun k => spec_l00Cut.f k s 46) (pieces s) := by
  have h := cut_l0 s hs s.size 0 0 [] (Nat.le_refl _) (by omega) (by simp)
  rw [List.nil_append, cut_pieces] at h
  exact Ev.congr (fun k => by unfold spec_l00Cut.f; rfl) h
theorem cut_size (s : ByteArray) (d : Nat) : ∀ a i : Nat, ∀ x ∈ cutFrom s a i d, x.size ≤ s.size := by
  induction d with
  | zero => intro a i x hx; simp only [cutFrom, List.mem_singleton] at hx; subst hx; simp
  | succ d ih =>
    intro a i x hx
    unfold cutFrom at hx
    by_cases hb : bt s (i : Int) = 46
    · rw [if_pos hb] at hx
      rcases List.mem_cons.1 hx with e | e
      · subst e; simp; omega
      · exact ih _ _ x e
    · rw [if_neg hb] at hx; exact ih _ _ x hx
theorem piece_size (s x : ByteArray) (h : x ∈ pieces s) : x.size ≤ s.size := cut_size s s.size 0 0 x (by rw [cut_pieces]; exact h)
/-! ### a number's text -/
theorem digit_some (c : UInt8) (d : Nat) (h : Lib.digitVal c = some d) : 48 ≤ c.toNat ∧ c.toNat ≤ 57 ∧ d = c.toNat - 48 := Lib.digitVal_eq h
theorem digit_back (c : UInt8) (d : Nat) (h : Lib.digitVal c = some d) : c = UInt8.ofNat (48 + d) ∧ d < 10 := by
  obtain ⟨h1, h2, h3⟩ := digit_some c d h
  refine ⟨UInt8.toNat_inj.1 ?_, by omega⟩
  rw [UInt8.toNat_ofNat']; omega
theorem digit_of (d : Nat) (h : d < 10) : Lib.digitVal (UInt8.ofNat (48 + d)) = some d := by
  unfold Lib.digitVal
  have e : (UInt8.ofNat (48 + d)).toNat = 48 + d := by rw [UInt8.toNat_ofNat']; omega
  rw [e, if_pos (by omega)]; congr 1; omega
theorem dec_cons (acc : Nat) (c : UInt8) (r : List UInt8) : Lib.decFrom acc (c :: r) = (Lib.digitVal c).bind fun d => Lib.decFrom (acc * 10 + d) r := by
  rw [Lib.decFrom]
  cases Lib.digitVal c <;> rfl
theorem dec_snoc (l : List UInt8) (c : UInt8) : ∀ acc : Nat, Lib.decFrom acc (l ++ [c]) = (Lib.decFrom acc l).bind fun m => (Lib.digitVal c).map fun d => m * 10 + d := by
  induction l with
  | nil =>
    intro acc
    rw [List.nil_append, dec_cons]
    show _ = (Lib.digitVal c).map fun d => acc * 10 + d
    cases Lib.digitVal c <;> rfl
  | cons x xs ih =>
    intro acc
    rw [List.cons_append, dec_cons, dec_cons]
    cases h : Lib.digitVal x with
    | none => rfl
    | some d => exact ih _
theorem dec_digits (m : Nat) : ∀ n : Nat, n < m → Lib.decFrom 0 (Lib.decDigits n) = some n := by
  induction m with
  | zero => intro n h; omega
  | succ m ih =>
    intro n hn
    rw [Lib.decDigits]
    by_cases h : n < 10
    · rw [dif_pos h, dec_cons, digit_of n h]
      show Lib.decFrom (0 * 10 + n) [] = _
      simp [Lib.decFrom]
    · rw [dif_neg h, dec_snoc, ih (n / 10) (by omega), Option.bind_some, digit_of (n % 10) (by omega)]
      simp only [Option.map_some]; congr 1; omega
theorem digits_next (m d : Nat) (hm : 1 ≤ m) (hd : d < 10) : Lib.decDigits (m * 10 + d) = Lib.decDigits m ++ [UInt8.ofNat (48 + d)] := by
  rw [Lib.decDigits, dif_neg (by omega), show (m * 10 + d) / 10 = m by omega, show (m * 10 + d) % 10 = d by omega]
theorem digits_on (l : List UInt8) : ∀ m n : Nat, 1 ≤ m → Lib.decFrom m l = some n → Lib.decDigits n = Lib.decDigits m ++ l := by
  induction l with
  | nil => intro m n _ h; obtain rfl := Option.some.inj h; simp
  | cons c r ih =>
    intro m n hm h
    rw [dec_cons] at h
    obtain ⟨d, hd, h⟩ := Option.bind_eq_some_iff.mp h
    obtain ⟨hc, hd10⟩ := digit_back c d hd
    rw [ih (m * 10 + d) n (by omega) h, digits_next m d hm hd10, ← hc]; simp
theorem digits_back (c : UInt8) (r : List UInt8) (n : Nat) (h : Lib.decFrom 0 (c :: r) = some n) (hz : c ≠ 48 ∨ r = []) : Lib.decDigits n = c :: r := by
  rw [dec_cons] at h
  obtain ⟨d, hd, h⟩ := Option.bind_eq_some_iff.mp h
  obtain ⟨hc, hd10⟩ := digit_back c d hd
  rw [Nat.zero_mul, Nat.zero_add] at h
  by_cases hr : r = []
  · subst hr
    obtain rfl := Option.some.inj h
    rw [Lib.decDigits, dif_pos hd10, ← hc]
  · have hc48 : c ≠ 48 := hz.resolve_right hr
    have h1 : 1 ≤ d := by
      rcases Nat.eq_zero_or_pos d with e | e
      · subst e; exact absurd hc hc48
      · exact e
    rw [digits_on r d n h1 h, Lib.decDigits, dif_pos hd10, ← hc]; rfl
theorem digits_head (m : Nat) : ∀ n : Nat, n < m → ∃ c r, Lib.decDigits n = c :: r ∧ 48 ≤ c.toNat ∧ c.toNat ≤ 57 ∧ (c = 48 → n = 0 ∧ r = []) := by
  induction m with
  | zero => intro n h; omega
  | succ m ih =>
    intro n hn
    rw [Lib.decDigits]
    by_cases h : n < 10
    · rw [dif_pos h]
      have e : (UInt8.ofNat (48 + n)).toNat = 48 + n := by rw [UInt8.toNat_ofNat']; omega
      refine ⟨_, [], rfl, by omega, by omega, fun q => ⟨?_, rfl⟩⟩
      have := congrArg UInt8.toNat q
      rw [e] at this
      have e48 : (48 : UInt8).toNat = 48 := rfl
      omega
    · rw [dif_neg h]
      obtain ⟨c, r, e, h1, h2, h3⟩ := ih (n / 10) (by omega)
      rw [e]
      exact ⟨c, r ++ _, rfl, h1, h2, fun q => by have := (h3 q).1; omega⟩
theorem digits_all (m : Nat) : ∀ n : Nat, n < m → ∀ c ∈ Lib.decDigits n, 48 ≤ c.toNat ∧ c.toNat ≤ 57 := by
  induction m with
  | zero => intro n h; omega
  | succ m ih =>
    intro n hn c hc
    rw [Lib.decDigits] at hc
    by_cases h : n < 10
    · rw [dif_pos h, List.mem_singleton] at hc
      subst hc
      rw [UInt8.toNat_ofNat']; omega
    · rw [dif_neg h, List.mem_append, List.mem_singleton] at hc
      rcases hc with hc | hc
      · exact ih (n / 10) (by omega) c hc
      · subst hc; rw [UInt8.toNat_ofNat']; omega
theorem dec_le (l : List UInt8) : ∀ m n : Nat, Lib.decFrom m l = some n → m ≤ n := by
  induction l with
  | nil => intro m n h; obtain rfl := Option.some.inj h; exact Nat.le_refl _
  | cons c r ih =>
    intro m n h
    rw [dec_cons] at h
    obtain ⟨d, _, h⟩ := Option.bind_eq_some_iff.mp h
    have := ih _ _ h
    omega
theorem parse_of (l : List UInt8) : ∀ m n : Nat, n < 1000000000000000000 → Lib.decFrom m l = some n → Lib.parseUint10 m l = .ok n := by
  induction l with
  | nil => intro m n _ h; obtain rfl := Option.some.inj h; rfl
  | cons c r ih =>
    intro m n hn h
    rw [dec_cons] at h
    obtain ⟨d, hd, h⟩ := Option.bind_eq_some_iff.mp h
    obtain ⟨h1, h2, h3⟩ := digit_some c d hd
    have hle := dec_le r _ _ h
    rw [Lib.parseUint10, if_pos ⟨h1, h2⟩, if_neg (by omega), if_neg (by omega), ← h3]
    exact ih _ _ hn h
/-- The number that a right text is. -/
def canonU (s : Bool) (r : List UInt8) : Option Int :=
  if r = [] then none else if r.length > 18 then none else if r.head? = some 48 ∧ (r.length > 1 ∨ s = true) then none else (Lib.decFrom 0 r).map fun (n : Nat) => if s = true then -(n : Int) else (n : Int)
def canon (t : List UInt8) : Option Int := if t.head? = some 45 then canonU true t.tail else canonU false t
theorem canon_itoa (t : List UInt8) (v : Int) (h : canon t = some v) : t = Lib.itoa v ∧ -1000000000000000000 < v ∧ v < 1000000000000000000 ∧ Lib.atoiAll t = .ok v ∧ (Lib.trimPrefix t [45]).length ≤ 18 := by
  unfold canon at h
  by_cases hs : t.head? = some 45
  · rw [if_pos hs] at h
    obtain ⟨r, rfl⟩ : ∃ r, t = 45 :: r := by
      cases t with
      | nil => cases hs
      | cons x xs => injection hs with hs; subst hs; exact ⟨xs, rfl⟩
    rw [List.tail_cons] at h
    unfold canonU at h
    by_cases h1 : r = []
    · rw [if_pos h1] at h; cases h
    rw [if_neg h1] at h
    by_cases h2 : r.length > 18
    · rw [if_pos h2] at h; cases h
    rw [if_neg h2] at h
    by_cases h3 : r.head? = some 48 ∧ (r.length > 1 ∨ true = true)
    · rw [if_pos h3] at h; cases h
    rw [if_neg h3] at h
    obtain ⟨n, hn, rfl⟩ := Option.map_eq_some_iff.1 h
    rw [if_pos rfl]
    have hb := Lib.decFrom_lt18 hn (by omega)
    cases r with
    | nil => exact absurd rfl h1
    | cons c r =>
      have hc : c ≠ 48 := fun e => h3 ⟨by rw [e]; rfl, Or.inr rfl⟩
      have hd := digits_back c r n hn (Or.inl hc)
      have hp := parse_of _ 0 n hb hn
      have hn1 : 1 ≤ n := by
        rcases Nat.eq_zero_or_pos n with e | e
        · subst e
          rw [Lib.decDigits, dif_pos (by omega)] at hd
          injection hd with hd _
          exact absurd hd.symm hc
        · exact e
      refine ⟨?_, by omega, by omega, ?_, ?_⟩
      · unfold Lib.itoa
        rw [if_pos (by omega), show (-(n : Int)).natAbs = n by omega, hd]
      · rw [Lib.atoiAll_minus]
        unfold Lib.parseMag Lib.signed
        rw [if_neg (by simp), hp]
        show (if 9223372036854775808 < n then Lib.NumEnd.range else Lib.NumEnd.ok (-(n : Int))) = _
        rw [if_neg (by omega)]
      · simpa [Lib.trimPrefix, Lib.hasPrefix] using h2
  · rw [if_neg hs] at h
    unfold canonU at h
    by_cases h1 : t = []
    · rw [if_pos h1] at h; cases h
    rw [if_neg h1] at h
    by_cases h2 : t.length > 18
    · rw [if_pos h2] at h; cases h
    rw [if_neg h2] at h
    by_cases h3 : t.head? = some 48 ∧ (t.length > 1 ∨ false = true)
    · rw [if_pos h3] at h; cases h
    rw [if_neg h3] at h
    obtain ⟨n, hn, rfl⟩ := Option.map_eq_some_iff.1 h
    rw [if_neg (by simp)]
    have hb := Lib.decFrom_lt18 hn (by omega)
    cases t with
    | nil => exact absurd rfl h1
    | cons c r =>
      have hz : c ≠ 48 ∨ r = [] := by
        by_cases e : c = 48
        · right
          apply Classical.byContradiction
          intro hr
          exact h3 ⟨by rw [e]; rfl, Or.inl (by have := List.length_pos_iff.2 hr; simp; omega)⟩
        · exact Or.inl e
      have hd := digits_back c r n hn hz
      have hp := parse_of _ 0 n hb hn
      have hdig : 48 ≤ c.toNat ∧ c.toNat ≤ 57 := by
        have := hn
        rw [dec_cons] at this
        obtain ⟨d, hd, _⟩ := Option.bind_eq_some_iff.mp this
        exact ⟨(digit_some c d hd).1, (digit_some c d hd).2.1⟩
      refine ⟨?_, by omega, by omega, ?_, ?_⟩
      · unfold Lib.itoa
        rw [if_neg (by omega), show (n : Int).toNat = n by omega, hd]
      · rw [Lib.atoiAll_plain c r (by omega) (by omega)]
        unfold Lib.parseMag Lib.signless
        rw [if_neg (by simp), hp]
        show (if 9223372036854775808 ≤ n then Lib.NumEnd.range else Lib.NumEnd.ok (n : Int)) = _
        rw [if_neg (by omega)]
      · have hc45 : c ≠ 45 := fun e => hs (by rw [e]; rfl)
        have : Lib.hasPrefix (c :: r) [45] = false := by
          simp only [Lib.hasPrefix, List.isPrefixOf, Bool.and_true]
          simpa using fun e => hc45 e.symm
        unfold Lib.trimPrefix
        rw [this, if_neg (by simp)]
        omega
theorem itoa_canon (v : Int) (h : (Lib.trimPrefix (Lib.itoa v) [45]).length ≤ 18) : canon (Lib.itoa v) = some v := by
  unfold canon
  by_cases hv : v < 0
  · have e : Lib.itoa v = 45 :: Lib.decDigits v.natAbs := by unfold Lib.itoa; rw [if_pos hv]
    rw [e] at h ⊢
    have h18 : (Lib.decDigits v.natAbs).length ≤ 18 := by simpa [Lib.trimPrefix, Lib.hasPrefix] using h
    obtain ⟨c, r, hc, h1, h2, h3⟩ := digits_head (v.natAbs + 1) v.natAbs (by omega)
    have hd := dec_digits (v.natAbs + 1) v.natAbs (by omega)
    rw [if_pos (show (45 :: Lib.decDigits v.natAbs).head? = some 45 from rfl), List.tail_cons]
    rw [hc] at h18 hd ⊢
    unfold canonU
    rw [if_neg (by simp), if_neg (by omega), if_neg (fun q => by
      have : c = 48 := by have := q.1; injection this
      have := (h3 this).1; omega), hd]
    simp only [Option.map_some, if_true]; congr 1; omega
  · have e : Lib.itoa v = Lib.decDigits v.toNat := by unfold Lib.itoa; rw [if_neg hv]
    rw [e] at h ⊢
    obtain ⟨c, r, hc, h1, h2, h3⟩ := digits_head (v.toNat + 1) v.toNat (by omega)
    have hd := dec_digits (v.toNat + 1) v.toNat (by omega)
    rw [hc] at h hd ⊢
    have hc45 : c ≠ 45 := fun e => by subst e; exact absurd h1 (by decide)
    have hp : Lib.hasPrefix (c :: r) [45] = false := by
      simp only [Lib.hasPrefix, List.isPrefixOf, Bool.and_true]
      simpa using fun e => hc45 e.symm
    unfold Lib.trimPrefix at h
    rw [hp, if_neg (by simp)] at h
    rw [if_neg (fun q => hc45 (by have := q; injection this))]
    unfold canonU
    rw [if_neg (by simp), if_neg (by omega), if_neg (fun q => by
      have h48 : c = 48 := by have := q.1; injection this
      have hr := (h3 h48).2
      rcases q.2 with q | q
      · rw [hr] at q; simp at q
      · cases q), hd]
    simp only [Option.map_some]; congr 1
    rw [if_neg (by simp)]; omega
/-- What the program reads. -/
theorem num_canon (s : ByteArray) : (∀ v, canon s.data.toList = some v → numOf s = (v, true)) ∧ (canon s.data.toList = none → (numOf s).2 = false) := by
  refine ⟨fun v h => ?_, fun h => ?_⟩
  · obtain ⟨h1, h2, h3, h4, h5⟩ := canon_itoa _ v h
    unfold numOf
    rw [h4]
    have e1 : ((num18 s).size : Int) ≤ 18 := by
      have : (num18 s).size = (Lib.trimPrefix s.data.toList [45]).length := by
        rw [← data_length]; unfold num18
        rw [List.toList_toArray]
      omega
    have e2 : (itoaB v).toList = s.toList := by
      rw [toList_data, toList_data]; unfold itoaB
      rw [List.toList_toArray]; exact h1.symm
    simp only [decide_eq_true e1, e2, beq_self_eq_true, Bool.and_true]
  · unfold numOf
    cases hq : Lib.atoiAll s.data.toList with
    | «syntax» => rfl
    | range => rfl
    | ok v =>
      cases hz : (decide (((num18 s).size : Int) ≤ 18) && ((itoaB v).toList == s.toList)) with
      | false => exact hz
      | true =>
        rw [Bool.and_eq_true] at hz
        have g1 := of_decide_eq_true hz.1
        have g2 : (itoaB v).toList = s.toList := by simpa using hz.2
        rw [toList_data, toList_data] at g2
        unfold itoaB at g2
        rw [List.toList_toArray] at g2
        have g3 : (num18 s).size = (Lib.trimPrefix s.data.toList [45]).length := by
          rw [← data_length]; unfold num18
          rw [List.toList_toArray]
        have := itoa_canon v (by rw [g2]; omega)
        rw [g2, h] at this; cases this
/-! ### what the reference reads -/
def outN : Option Int → Int × Bool
  | none => (0, false)
  | some v => (v, true)
theorem bt_list (s : ByteArray) (i : Nat) (h : i < s.data.toList.length) : bt s (i : Int) = ((s.data.toList[i]).toNat : Int) := by
  rw [bt_nat, List.getD_eq_getElem?_getD, List.getElem?_eq_getElem h]; rfl
theorem num_l0 (s : ByteArray) (hs : s.size ≤ 18) (b : Bool) (d : Nat) : ∀ (i n : Nat), i + d = s.size → n < 10 ^ i → Ev (fun k => spec_l00Number.l0 k s (if b = true then -1 else 1) (n : Int) (i : Int)) (outN ((Lib.decFrom n (s.data.toList.drop i)).map fun (n : Nat) => if b = true then -(n : Int) else (n : Int))) := by
  have hl : s.data.toList.length = s.size := data_length s
  induction d with
  | zero =>
    intro i n hi hn
    have h18 : n < 10 ^ 18 := Nat.lt_of_lt_of_le hn (Nat.pow_le_pow_right (by decide) (by omega))
    have e18 : (10 : Nat) ^ 18 = 1000000000000000000 := by decide
    rw [List.drop_eq_nil_of_le (by omega)]
    refine Ev.step (fun k => ?_) (Ev.now _)
    simp only [spec_l00Number.l0, Lib.decFrom, Option.map_some]
    rw [if_neg (by omega)]
    cases b with
    | true => simp only [if_true, outN]; rw [wrap64_id (by omega) (by omega)]; congr 2; omega
    | false => simp only [Bool.false_eq_true, if_false, outN]; rw [wrap64_id (by omega) (by omega)]; congr 2; omega
  | succ d ih =>
    intro i n hi hn
    have h17 : n < 10 ^ 17 := Nat.lt_of_lt_of_le hn (Nat.pow_le_pow_right (by decide) (by omega))
    have e17 : (10 : Nat) ^ 17 = 100000000000000000 := by decide
    have w1 : Aside0 (wrap64 ((i : Int) + 1) = ((i + 1 : Nat) : Int)) := ⟨by rw [wrap64_id (by omega) (by omega)]; omega⟩
    rw [List.drop_eq_getElem_cons (by omega), dec_cons]
    have hb := bt_list s i (by omega)
    generalize s.data.toList[i] = c at hb ⊢
    have hc := c.toNat_lt
    unfold Lib.digitVal
    by_cases h1 : c.toNat < 48
    · rw [if_neg (c := 48 ≤ c.toNat ∧ c.toNat ≤ 57) (by omega)]
      refine Ev.step (f := fun _ => some _) (fun k => ?_) (Ev.now _)
      simp only [spec_l00Number.l0, hb]
      rw [if_pos (by omega), if_pos (by omega), if_pos (by omega)]; rfl
    · by_cases h2 : c.toNat > 57
      · rw [if_neg (c := 48 ≤ c.toNat ∧ c.toNat ≤ 57) (by omega)]
        refine Ev.step (f := fun _ => some _) (fun k => ?_) (Ev.now _)
        simp only [spec_l00Number.l0, hb]
        rw [if_pos (by omega), if_pos (by omega), if_neg (by omega), if_pos (by omega)]; rfl
      · rw [if_pos (c := 48 ≤ c.toNat ∧ c.toNat ≤ 57) (by omega), Option.bind_some]
        have hnext : wrap64 ((wrap64 ((wrap64 ((n : Int) * 10)) + (wrap64 (c.toNat : Int)))) - 48) = ((n * 10 + (c.toNat - 48) : Nat) : Int) := by
          rw [wrap64_id (x := (n : Int) * 10) (by omega) (by omega), wrap64_id (x := (c.toNat : Int)) (by omega) (by omega), wrap64_id (x := (n : Int) * 10 + (c.toNat : Int)) (by omega) (by omega), wrap64_id (by omega) (by omega)]; omega
        have h := ih (i + 1) (n * 10 + (c.toNat - 48)) (by omega) (by rw [Nat.pow_succ]; omega)
        refine Ev.step (fun k => ?_) h
        simp only [spec_l00Number.l0, hb, w1.out, hnext]
        rw [if_pos (by omega), if_pos (by omega), if_neg (by omega), if_neg (by omega)]
theorem num_j1 (s : ByteArray) (b : Bool) (sg : Int) (hsg : (if b = true then -1 else 1) = sg) : Ev (fun k => spec_l00Number.j1 k s sg) (outN (canonU b s.data.toList)) := by
  have hl : s.data.toList.length = s.size := data_length s
  have hneg : decide (sg < 0) = b := by subst hsg; cases b <;> rfl
  have bad : ∀ x4 : Int, Ev (fun k => spec_l00Number.j2 k s x4 true) (0, false) := fun x4 => Ev.step (f := fun _ => some _) (fun k => by simp only [spec_l00Number.j2]; rw [if_pos trivial]) (Ev.now _)
  unfold canonU
  by_cases h1 : s.data.toList = []
  · rw [if_pos h1]
    have h0 : s.size = 0 := by rw [← hl, h1]; rfl
    exact Ev.step (fun k => by simp only [spec_l00Number.j1]; rw [if_pos (by omega)]) (bad _)
  · have h0 : 0 < s.size := by rw [← hl]; exact List.length_pos_iff.2 h1
    rw [if_neg h1]
    by_cases h2 : s.data.toList.length > 18
    · rw [if_pos h2]
      exact Ev.step (fun k => by simp only [spec_l00Number.j1]; rw [if_neg (by omega), if_pos (by omega)]) (bad _)
    · rw [if_neg h2]
      have good : Ev (fun k => spec_l00Number.j2 k s sg false) (outN ((Lib.decFrom 0 s.data.toList).map fun (n : Nat) => if b = true then -(n : Int) else (n : Int))) := by
        have h := num_l0 s (by omega) b s.size 0 0 (by omega) (by decide)
        rw [List.drop_zero, hsg] at h
        exact Ev.step (fun k => by simp only [spec_l00Number.j2]; rw [if_neg (by simp)]; rfl) h
      have b0 := bt_list s 0 (by omega)
      have hhead : s.data.toList.head? = some 48 ↔ bt s 0 = 48 := by
        rw [List.head?_eq_getElem?, List.getElem?_eq_getElem (by omega)]
        have e48 : (48 : UInt8).toNat = 48 := rfl
        constructor
        · intro e; injection e with e; rw [show (0 : Int) = ((0 : Nat) : Int) from rfl, b0, e]; rfl
        · intro e
          rw [show (0 : Int) = ((0 : Nat) : Int) from rfl, b0] at e
          congr 1
          exact UInt8.toNat_inj.1 (by omega)
      by_cases h4 : bt s 0 = 48
      · by_cases h5 : s.size > 1
        · rw [if_pos (c := s.data.toList.head? = some 48 ∧ (s.data.toList.length > 1 ∨ b = true)) ⟨hhead.2 h4, Or.inl (by omega)⟩]
          exact Ev.step (fun k => by simp only [spec_l00Number.j1]; rw [if_neg (by omega), if_neg (by omega), if_pos (by omega), if_pos h4, if_pos (by omega)]) (bad sg)
        · refine Ev.step (f := fun k => spec_l00Number.j2 k s sg b) (fun k => by simp only [spec_l00Number.j1]; rw [if_neg (by omega), if_neg (by omega), if_pos (by omega), if_pos h4, if_neg (by omega), hneg]) ?_
          cases b with
          | true =>
            rw [if_pos (c := s.data.toList.head? = some 48 ∧ (s.data.toList.length > 1 ∨ true = true)) ⟨hhead.2 h4, Or.inr rfl⟩]
            exact bad sg
          | false =>
            rw [if_neg (c := s.data.toList.head? = some 48 ∧ (s.data.toList.length > 1 ∨ false = true)) (fun q => q.2.elim (fun g => by omega) (fun g => by cases g))]
            exact good
      · rw [if_neg (c := s.data.toList.head? = some 48 ∧ (s.data.toList.length > 1 ∨ b = true)) (fun q => h4 (hhead.1 q.1))]
        exact Ev.step (fun k => by simp only [spec_l00Number.j1]; rw [if_neg (by omega), if_neg (by omega), if_pos (by omega), if_neg h4]) good
theorem spec_num_ev (s : ByteArray) : Ev (fun k => spec_l00Number.f k s) (outN (canon s.data.toList)) := by
  have hl : s.data.toList.length = s.size := data_length s
  unfold canon
  by_cases h0 : 0 < s.size
  · have b0 := bt_list s 0 (by omega)
    have hhead : s.data.toList.head? = some 45 ↔ bt s 0 = 45 := by
      rw [List.head?_eq_getElem?, List.getElem?_eq_getElem (by omega)]
      have e48 : (45 : UInt8).toNat = 45 := rfl
      constructor
      · intro e; injection e with e; rw [show (0 : Int) = ((0 : Nat) : Int) from rfl, b0, e]; rfl
      · intro e
        rw [show (0 : Int) = ((0 : Nat) : Int) from rfl, b0] at e
        congr 1
        exact UInt8.toNat_inj.1 (by omega)
    by_cases h : bt s 0 = 45
    · rw [if_pos (hhead.2 h)]
      have hj := num_j1 (s.extract 1 s.size) true (-1) rfl
      have ht : (s.extract 1 s.size).data.toList = s.data.toList.tail := by
        rw [ByteArray.data_extract, Array.toList_extract, List.extract_eq_take_drop, List.take_of_length_le (by rw [List.length_drop]; omega), List.drop_one]
      rw [ht] at hj
      have hb : (bt s 0 == 45) = true := by rw [h]; rfl
      refine Ev.congr (fun k => by unfold spec_l00Number.f; rw [if_pos (by omega), if_pos (by omega), hb]) (Ev.step (fun k => ?_) hj)
      simp only [spec_l00Number.j0]; rw [if_pos trivial, if_pos (by omega)]
    · rw [if_neg (fun q => h (hhead.1 q))]
      have hb : (bt s 0 == 45) = false := by simpa using h
      refine Ev.congr (fun k => by unfold spec_l00Number.f; rw [if_pos (by omega), if_pos (by omega), hb]) (Ev.step (fun k => ?_) (num_j1 s false 1 rfl))
      simp only [spec_l00Number.j0]; rw [if_neg (by simp)]
  · have he : s.data.toList = [] := List.length_eq_zero_iff.1 (by omega)
    rw [if_neg (by rw [he]; simp)]
    refine Ev.congr (fun k => by unfold spec_l00Number.f; rw [if_neg (by omega)]) (Ev.step (fun k => ?_) (num_j1 s false 1 rfl))
    simp only [spec_l00Number.j0]; rw [if_neg (by simp)]
theorem impl_num_at (s : ByteArray) (hs : s.size ≤ 1048576) : impl_number.f s = some (numOf s) := by unfold impl_number.f; rw [if_pos (by omega)]
theorem in_at (v a b : Int) : impl_within.f v a b = some (decide (a ≤ v ∧ v ≤ b)) := by
  unfold impl_within.f
  by_cases h : v ≥ a
  · rw [if_pos h]; congr 1; apply decide_eq_decide.2; omega
  · rw [if_neg h]; congr 1; symm; apply decide_eq_false; omega
theorem sin_at (v a b : Int) : spec_l01In.f v a b = some (decide (a ≤ v ∧ v ≤ b)) := by
  unfold spec_l01In.f
  by_cases h : a ≤ v
  · rw [if_pos h]; congr 1; apply decide_eq_decide.2; omega
  · rw [if_neg h]; congr 1; symm; apply decide_eq_false; omega
/-- numberIn: right, and within bounds. -/
theorem numIn_at (s : ByteArray) (hs : s.size ≤ 1048576) (a b : Int) : (∀ v, canon s.data.toList = some v → impl_numberIn.f s a b = some (v, decide (a ≤ v ∧ v ≤ b))) ∧ (canon s.data.toList = none → ∃ v, impl_numberIn.f s a b = some (v, false)) := by
  refine ⟨fun v h => ?_, fun h => ?_⟩
  · unfold impl_numberIn.f
    rw [impl_num_at s hs, (num_canon s).1 v h, Option.bind_some, if_pos rfl, in_at]; rfl
  · refine ⟨(numOf s).1, ?_⟩
    unfold impl_numberIn.f
    rw [impl_num_at s hs, Option.bind_some, (num_canon s).2 h, if_neg (by simp)]
/-! ### an address read -/
theorem rdP (L : List ByteArray) (q : Nat) (h : q < L.length) : rdOf ByteArray.empty L (q : Int) = L[q] := by
  simp [rdOf, List.getD_eq_getElem?_getD, h]
def addrF (L : List ByteArray) : Nat → Nat → Int → Option Int
  | 0, _, n => some n
  | d + 1, i, n => match canon (rdOf ByteArray.empty L (i : Int)).data.toList with
    | none => none
    | some v => if 0 ≤ v ∧ v ≤ 255 then addrF L d (i + 1) (n * 256 + v) else none
theorem addr_l0 (L : List ByteArray) (hL : L.length = 4) (hs : ∀ x ∈ L, x.size ≤ 1048576) (d : Nat) : ∀ (i : Nat) (n : Int), i + d = 4 → 0 ≤ n → n < 256 ^ i → (∀ r, addrF L d i n = some r → 0 ≤ r ∧ r < 4294967296) ∧ Ev (fun k => spec_l01ReadAddress.l0 k L n (i : Int)) (outN (addrF L d i n)) ∧ Ev (fun k => impl_readAddress.l0 k n L 4 (i : Int)) (outN (addrF L d i n)) := by
  induction d with
  | zero =>
    intro i n hi h0 hn
    have e4 : i = 4 := by omega
    subst e4
    refine ⟨fun r h => ?_, Ev.step (fun k => ?_) (Ev.now _), Ev.step (fun k => ?_) (Ev.now _)⟩
    · obtain rfl := Option.some.inj h
      exact ⟨h0, by have e : (256 : Int) ^ 4 = 4294967296 := by decide
                    omega⟩
    · simp only [spec_l01ReadAddress.l0]; rw [if_neg (by omega)]; rfl
    · simp only [impl_readAddress.l0]; rw [if_neg (by omega)]; rfl
  | succ d ih =>
    intro i n hi h0 hn
    have hi4 : i < L.length := by omega
    have w1 : Aside0 (wrap64 ((i : Int) + 1) = ((i + 1 : Nat) : Int)) := ⟨by rw [wrap64_id (by omega) (by omega)]; omega⟩
    have hb : n < 16777216 := by
      have e : (256 : Int) ^ 3 = 16777216 := by decide
      rcases (show i = 0 ∨ i = 1 ∨ i = 2 ∨ i = 3 by omega) with e | e | e | e <;> subst e <;> simp at hn <;> omega
    have hz := hs _ (List.getElem_mem hi4)
    unfold addrF
    rw [rdP L i hi4]
    have hS := spec_num_ev L[i]
    obtain ⟨hI1, hI2⟩ := numIn_at L[i] hz 0 255
    have eS : ∀ r, Ev (fun k => if (outN (canon (L[i]).data.toList)).2 = true then ((spec_l01In.f (outN (canon (L[i]).data.toList)).1 0 255).bind fun t116 => (if t116 = true then (spec_l01ReadAddress.l0 k L (wrap64 ((wrap64 (n * 256)) + (outN (canon (L[i]).data.toList)).1)) ((i + 1 : Nat) : Int)) else (some (0, false)))) else (some (0, false))) r → Ev (fun k => spec_l01ReadAddress.l0 k L n (i : Int)) r := fun r h => by
      refine Ev.step (f := fun k => (spec_l00Number.f k L[i]).bind fun bt114 => (if bt114.2 = true then ((spec_l01In.f bt114.1 0 255).bind fun t116 => (if t116 = true then (spec_l01ReadAddress.l0 k L (wrap64 ((wrap64 (n * 256)) + bt114.1)) ((i + 1 : Nat) : Int)) else (some (0, false)))) else (some (0, false)))) (fun k => ?_) (Ev.bind hS h)
      simp only [spec_l01ReadAddress.l0, rdP L i hi4, w1.out]
      rw [if_pos (by omega), if_pos (by omega), if_pos (by omega)]
    have eI : ∀ (p : Int × Bool), impl_numberIn.f L[i] 0 255 = some p → ∀ r, Ev (fun k => if p.2 = true then (impl_readAddress.l0 k (wrap64 ((wrap64 (n * 256)) + p.1)) L 4 ((i + 1 : Nat) : Int)) else (some (0, false))) r → Ev (fun k => impl_readAddress.l0 k n L 4 (i : Int)) r := fun p hp r h => by
      refine Ev.step (fun k => ?_) h
      simp only [impl_readAddress.l0, rdP L i hi4, w1.out, hp, Option.bind_some]
      rw [if_pos (by omega), if_pos (by omega), if_pos (by omega)]
    cases hc : canon (L[i]).data.toList with
    | none =>
      rw [hc] at eS
      obtain ⟨v, hv⟩ := hI2 hc
      refine ⟨(by intro r h; cases h), eS _ (Ev.congr (f := fun _ => some (0, false)) (fun k => by rw [if_neg (by simp [outN])]) (Ev.now _)), eI _ hv _ (Ev.congr (f := fun _ => some (0, false)) (fun k => by rw [if_neg (by simp)]) (Ev.now _))⟩
    | some v =>
      rw [hc] at eS
      have hv := hI1 v hc
      simp only
      by_cases hr : 0 ≤ v ∧ v ≤ 255
      · rw [if_pos hr]
        have hw : wrap64 (wrap64 (n * 256) + v) = n * 256 + v := by rw [wrap64_id (x := n * 256) (by omega) (by omega), wrap64_id (by omega) (by omega)]
        obtain ⟨i1, i2, i3⟩ := ih (i + 1) (n * 256 + v) (by omega) (by omega) (by rw [Int.pow_succ]; omega)
        refine ⟨i1, eS _ (Ev.congr (fun k => ?_) i2), eI _ hv _ (Ev.congr (fun k => ?_) i3)⟩
        · simp only [outN]
          rw [if_pos trivial, sin_at, Option.bind_some, decide_eq_true hr, if_pos rfl, hw]
        · simp only [decide_eq_true hr]
          rw [if_pos trivial, hw]
      · rw [if_neg hr]
        refine ⟨fun r h => (by cases h), eS _ (Ev.congr (fun k => ?_) (Ev.now _)), eI _ hv _ (Ev.congr (fun k => ?_) (Ev.now _))⟩
        · simp only [outN]
          rw [if_pos trivial, sin_at, Option.bind_some, decide_eq_false hr, if_neg (by simp)]
        · simp only [decide_eq_false hr]
          rw [if_neg (by simp)]; rfl
theorem addr_both (s : ByteArray) (hs : s.size ≤ 1048576) : ∃ r : Option Int, (∀ v, r = some v → 0 ≤ v ∧ v < 4294967296) ∧ Ev (fun k => spec_l01ReadAddress.f k s) (outN r) ∧ Ev (fun k => impl_readAddress.f k s) (outN r) := by
  have hsp : strings_Split.f s (⟨#[46]⟩ : ByteArray) = some (pieces s) := by unfold strings_Split.f; rw [if_pos (by decide), if_pos (by omega)]; rfl
  have hp := fun x hx => Nat.le_trans (piece_size s x hx) hs
  generalize hL : pieces s = L at hsp hp
  have hc := cut_ev s hs
  rw [hL] at hc
  by_cases h4 : L.length = 4
  · obtain ⟨h1, h2, h3⟩ := addr_l0 L h4 hp 4 0 0 rfl (by omega) (by decide)
    refine ⟨_, h1, ?_, ?_⟩
    · exact Ev.congr (fun k => by unfold spec_l01ReadAddress.f; rfl) (Ev.bind hc (Ev.congr (fun k => by rw [if_pos (by omega)]; rfl) h2))
    · exact Ev.congr (fun k => by unfold impl_readAddress.f; rw [hsp, Option.bind_some, if_pos (by omega), show (L.length : Int) = 4 by omega]; rfl) h3
  · refine ⟨none, (by intro v h; cases h), ?_, ?_⟩
    · exact Ev.congr (fun k => by unfold spec_l01ReadAddress.f; rfl) (Ev.bind hc (Ev.congr (f := fun _ => some _) (fun k => by rw [if_neg (by omega)]; rfl) (Ev.now _)))
    · exact Ev.congr (f := fun _ => some _) (fun k => by unfold impl_readAddress.f; rw [hsp, Option.bind_some, if_neg (by omega)]; rfl) (Ev.now _)
/-! ### a right net -/
theorem netok_in (a b c : Int) : spec_l01In.f a b c = some (decide (b ≤ a ∧ a ≤ c)) := by
  unfold spec_l01In.f
  by_cases h : b ≤ a
  · rw [if_pos h]; simp [h]
  · rw [if_neg h]; simp [h]
theorem netok_within (a b c : Int) : impl_within.f a b c = some (decide (b ≤ a ∧ a ≤ c)) := by
  rw [← netok_in]; rfl
theorem netok_eq (a b : Int) : ∃ r, spec_NetOK.f a b = some r ∧ impl_NetOK.f a b = some r := by
  unfold spec_NetOK.f impl_NetOK.f spec_l01Ip.f impl_isAddress.f
  simp only [netok_in, netok_within, Option.bind_some]
  by_cases h1 : 0 ≤ a ∧ a ≤ 4294967295
  · by_cases h2 : 0 ≤ b ∧ b ≤ 32
    · have w1 : wrap64 (32 - b) = 32 - b := wrap64_id (by omega) (by omega)
      have w2 : IntKind.u64.wrap (32 - b) = 32 - b := by rw [wrap_u64]; omega
      simp only [h1, h2, w1, w2, and_self, decide_true, if_true]
      have h3 : 0 ≤ 32 - b := by omega
      exact ⟨_, if_pos h3⟩
    · exact ⟨false, by simp only [h1, h2, and_self, decide_true, decide_false, if_true, Bool.false_eq_true, if_false], by simp only [h1, h2, and_self, decide_true, decide_false, if_true, Bool.false_eq_true, if_false]⟩
  · exact ⟨false, by simp only [h1, decide_false, Bool.false_eq_true, if_false], by simp only [h1, decide_false, Bool.false_eq_true, if_false]⟩
theorem netok_true (a b : Int) (h : spec_NetOK.f a b = some true) : (0 ≤ a ∧ a ≤ 4294967295) ∧ (0 ≤ b ∧ b ≤ 32) := by
  unfold spec_NetOK.f spec_l01Ip.f at h
  simp only [netok_in, Option.bind_some] at h
  by_cases h1 : 0 ≤ a ∧ a ≤ 4294967295
  · by_cases h2 : 0 ≤ b ∧ b ≤ 32
    · exact ⟨h1, h2⟩
    · rw [decide_eq_false h2] at h
      simp at h
  · rw [decide_eq_false h1] at h
    simp at h
/-! ### a net read: cut at its strokes -/
theorem sconv (t : ByteArray) : Lib.indexB t ⟨#[47]⟩ = Lib.indexByte t.data.toList 47 := Lib.index_one t.data.toList 47
theorem bt_47 (s : ByteArray) (i : Nat) : bt s (i : Int) = 47 ↔ s.data.toList[i]? = some 47 := by
  rw [bt_nat]
  by_cases h : i < s.data.toList.length
  · rw [List.getD_eq_getElem?_getD, List.getElem?_eq_getElem h]
    simp only [Option.getD_some, Option.some.injEq]
    constructor
    · intro e
      have : s.data.toList[i].toNat = 47 := by omega
      exact UInt8.toNat_inj.1 this
    · intro e; rw [e]; rfl
  · rw [List.getD_eq_getElem?_getD, List.getElem?_eq_none (by omega)]; simp
def scut (s : ByteArray) (a i : Nat) : Nat → List ByteArray
  | 0 => [s.extract a s.size]
  | d + 1 => if bt s (i : Int) = 47 then s.extract a i :: scut s (i + 1) (i + 1) d else scut s a (i + 1) d
theorem scut_l0 (s : ByteArray) (hs : s.size ≤ 1048576) (d : Nat) : ∀ (a i : Nat) (x : List ByteArray), a ≤ i → i + d = s.size → x.length ≤ i → Ev (fun k => spec_l00Cut.l0 k s 47 x (a : Int) (i : Int)) (x ++ scut s a i d) := by
  induction d with
  | zero =>
    intro a i x ha hi hx
    refine Ev.step (f := fun _ => some _) (fun k => ?_) (Ev.now _)
    simp only [spec_l00Cut.l0, Int.toNat_natCast]; rw [if_neg (by omega), if_pos (by omega), if_pos (by omega), if_pos (by omega)]; rfl
  | succ d ih =>
    intro a i x ha hi hx
    have hw : wrap64 ((i : Int) + 1) = ((i + 1 : Nat) : Int) := by rw [wrap64_id (by omega) (by omega)]; omega
    unfold scut
    by_cases hb : bt s (i : Int) = 47
    · rw [if_pos hb]
      have h := ih (i + 1) (i + 1) (x ++ [s.extract a i]) (Nat.le_refl _) (by omega) (by simp; omega)
      rw [List.append_assoc] at h
      refine Ev.step (fun k => ?_) h
      simp only [spec_l00Cut.l0, hw, Int.toNat_natCast]; rw [if_pos (by omega), if_pos (by omega), if_pos hb, if_pos (by omega), if_pos (by omega), if_pos (by omega), if_pos (by omega)]
    · rw [if_neg hb]
      refine Ev.step (fun k => ?_) (ih a (i + 1) x (by omega) (by omega) (by omega))
      simp only [spec_l00Cut.l0, hw]; rw [if_pos (by omega), if_pos (by omega), if_neg hb]
theorem scut_ev (s : ByteArray) (hs : s.size ≤ 1048576) : Ev (fun k => spec_l00Cut.f k s 47) (scut s 0 0 s.size) :=
  Ev.congr (fun k => by unfold spec_l00Cut.f; rfl) (scut_l0 s hs s.size 0 0 [] (Nat.le_refl _) (by omega) (by simp))
theorem scut_none (s : ByteArray) (d : Nat) : ∀ a i : Nat, i + d = s.size → (∀ j, i ≤ j → s.data.toList[j]? ≠ some 47) → scut s a i d = [s.extract a s.size] := by
  induction d with
  | zero => intro a i _ _; rfl
  | succ d ih =>
    intro a i hi h
    unfold scut
    rw [if_neg (fun e => h i (Nat.le_refl _) ((bt_47 s i).1 e)), ih a (i + 1) (by omega) (fun j hj => h j (by omega))]
theorem scut_pos (s : ByteArray) (d : Nat) : ∀ a i : Nat, 1 ≤ (scut s a i d).length := by
  induction d with
  | zero => intro a i; simp [scut]
  | succ d ih =>
    intro a i
    unfold scut
    split
    · simp
    · exact ih _ _
theorem scut_one (s : ByteArray) (n : Nat) (hn : s.data.toList[n]? = some 47) (d : Nat) : ∀ a i : Nat, i + d = s.size → i ≤ n → (∀ j, i ≤ j → j < n → s.data.toList[j]? ≠ some 47) → scut s a i d = s.extract a n :: scut s (n + 1) (n + 1) (s.size - (n + 1)) := by
  have hlt : n < s.size := by
    have := (List.getElem?_eq_some_iff.1 hn).1
    rwa [data_length] at this
  induction d with
  | zero => intro a i hi hin; omega
  | succ d ih =>
    intro a i hi hin h
    conv => lhs; unfold scut
    by_cases e : i = n
    · subst e
      rw [if_pos ((bt_47 s i).2 hn), show d = s.size - (i + 1) by omega]
    · rw [if_neg (fun q => h i (Nat.le_refl _) (by omega) ((bt_47 s i).1 q)), ih a (i + 1) (by omega) (by omega) (fun j h1 h2 => h j (by omega) h2)]
theorem canon_no (l : List UInt8) (v : Int) (h : canon l = some v) : ∀ j : Nat, l[j]? ≠ some 47 := by
  obtain ⟨e, _⟩ := canon_itoa l v h
  intro j hj
  have hm : (47 : UInt8) ∈ l := List.mem_of_getElem? hj
  rw [e] at hm
  unfold Lib.itoa at hm
  split at hm
  · rcases List.mem_cons.1 hm with q | q
    · exact absurd q (by decide)
    · exact absurd (digits_all _ _ (Nat.lt_succ_self _) _ q).1 (by decide)
  · exact absurd (digits_all _ _ (Nat.lt_succ_self _) _ hm).1 (by decide)
def firstB (s : ByteArray) : ByteArray := ⟨(Lib.cut s.data.toList (⟨#[47]⟩ : ByteArray).data.toList).1.toArray⟩
def restB (s : ByteArray) : ByteArray := ⟨(Lib.cut s.data.toList (⟨#[47]⟩ : ByteArray).data.toList).2.1.toArray⟩
def hasB (s : ByteArray) : Bool := (Lib.cut s.data.toList (⟨#[47]⟩ : ByteArray).data.toList).2.2
theorem cut_cases (s : ByteArray) : (hasB s = false ∧ firstB s = s ∧ restB s = ⟨#[]⟩ ∧ ∀ j : Nat, s.data.toList[j]? ≠ some 47) ∨ ∃ n : Nat, hasB s = true ∧ firstB s = s.extract 0 n ∧ restB s = s.extract (n + 1) s.size ∧ s.data.toList[n]? = some 47 ∧ ∀ j : Nat, j < n → s.data.toList[j]? ≠ some 47 := by
  have hi : Lib.index s.data.toList [47] = Lib.indexByte s.data.toList 47 := Lib.index_one _ _
  unfold hasB firstB restB Lib.cut
  have e47 : (⟨#[47]⟩ : ByteArray).data.toList = [47] := rfl
  rw [e47]
  by_cases h : 0 ≤ Lib.index s.data.toList [47]
  · right
    obtain ⟨n, hn⟩ : ∃ n : Nat, Lib.index s.data.toList [47] = n := ⟨(Lib.index s.data.toList [47]).toNat, by omega⟩
    rw [hi] at hn
    obtain ⟨h1, h2⟩ := Lib.indexByte_some hn
    have hlt : n < s.size := by
      have := (List.getElem?_eq_some_iff.1 h1).1
      rwa [data_length] at this
    rw [← hi] at hn
    rw [if_pos h, hn, Int.toNat_natCast]
    refine ⟨n, rfl, ?_, ?_, h1, h2⟩
    · apply toList_inj
      rw [toList_data, toList_data, ex_list, List.drop_zero]
    · apply toList_inj
      rw [toList_data, toList_data]
      show s.data.toList.drop (n + 1) = _
      rw [ex_list, List.take_of_length_le (l := s.data.toList) (by rw [data_length]; exact Nat.le_refl _)]
  · left
    rw [if_neg h]
    have hge := Lib.index_ge s.data.toList [47]
    have hm : Lib.indexByte s.data.toList 47 = -1 := by rw [← hi]; omega
    refine ⟨rfl, ?_, rfl, Lib.indexByte_none hm⟩
    apply toList_inj
    rw [toList_data]
def netOf (a b : Int) : Int × Int × Bool := (a, b, (spec_NetOK.f a b).getD false)
theorem readNet_both (s : ByteArray) (hs : s.size ≤ 65536) : ∃ r, Ev (fun k => spec_ReadNet.f k s) r ∧ Ev (fun k => impl_ReadNet.f k s) r := by
  have hcut : strings_Cut.f s (⟨#[47]⟩ : ByteArray) = some (firstB s, restB s, hasB s) := by unfold strings_Cut.f; rw [if_pos (by omega)]; rfl
  have hS := scut_ev s (by omega)
  have bad : Ev (fun k => spec_ReadNet.f k s) (0, 0, 3) → Ev (fun k => impl_ReadNet.f k s) (0, 0, 3) → ∃ r, Ev (fun k => spec_ReadNet.f k s) r ∧ Ev (fun k => impl_ReadNet.f k s) r := fun a b => ⟨_, a, b⟩
  -- what is no net ends alike
  have eS : ∀ x, Ev (fun k => spec_l05Read.f k s) x → Ev (fun k => spec_ReadNet.f k s) (if x.2.2 = true then (x.1, x.2.1, 0) else (0, 0, 3)) := fun x h => Ev.congr (fun k => by unfold spec_ReadNet.f; rw [if_neg (by omega)]) (Ev.bind h (Ev.congr (f := fun _ => some _) (fun k => by split <;> rfl) (Ev.now _)))
  have eI : ∀ x, Ev (fun k => impl_readNet.f k s) x → Ev (fun k => impl_ReadNet.f k s) (if x.2.2 = true then (x.1, x.2.1, 0) else (0, 0, 3)) := fun x h => Ev.congr (fun k => by unfold impl_ReadNet.f; rw [if_neg (by omega)]) (Ev.bind h (Ev.congr (f := fun _ => some _) (fun k => by split <;> rfl) (Ev.now _)))
  have zf : (firstB s).size ≤ 1048576 ∧ (restB s).size ≤ 1048576 := by
    rcases cut_cases s with ⟨_, h1, h2, _⟩ | ⟨n, _, h1, h2, _, _⟩
    · rw [h1, h2]; exact ⟨by omega, by decide⟩
    · rw [h1, h2]; refine ⟨?_, ?_⟩ <;> rw [ByteArray.size_extract] <;> omega
  obtain ⟨ra, hra, haS, haI⟩ := addr_both (firstB s) zf.1
  obtain ⟨n1, n2⟩ := numIn_at (restB s) zf.2 0 32
  have hI : ∀ (p : Int × Bool), impl_numberIn.f (restB s) 0 32 = some p → ∀ r, Ev (fun k => if hasB s = true then (if (outN ra).2 = true then (if p.2 = true then ((impl_NetOK.f (outN ra).1 p.1).bind fun t160 => (some ((outN ra).1, p.1, t160))) else (some ((outN ra).1, p.1, false))) else (some ((outN ra).1, p.1, false))) else (some ((outN ra).1, p.1, false))) r → Ev (fun k => impl_readNet.f k s) r := fun p hp r h => by
    refine Ev.congr (f := fun k => (impl_readAddress.f k (firstB s)).bind fun bt155 => (if hasB s = true then (if bt155.2 = true then (if p.2 = true then ((impl_NetOK.f bt155.1 p.1).bind fun t160 => (some (bt155.1, p.1, t160))) else (some (bt155.1, p.1, false))) else (some (bt155.1, p.1, false))) else (some (bt155.1, p.1, false)))) (fun k => ?_) (Ev.bind haI h)
    unfold impl_readNet.f
    rw [hcut, Option.bind_some, hp]; rfl
  have failI : (∀ v, canon (restB s).data.toList = some v → hasB s = false ∨ ra = none ∨ ¬ (0 ≤ v ∧ v ≤ 32)) → Ev (fun k => impl_ReadNet.f k s) (0, 0, 3) := fun q => by
    have key : ∃ a b, Ev (fun k => impl_readNet.f k s) (a, b, false) := by
      cases hc : canon (restB s).data.toList with
      | none =>
        obtain ⟨v, hv⟩ := n2 hc
        refine ⟨(outN ra).1, v, hI _ hv _ (Ev.congr (f := fun _ => some _) (fun k => ?_) (Ev.now _))⟩
        simp only [Bool.false_eq_true, if_false]
        split <;> (try split) <;> rfl
      | some v =>
        refine ⟨(outN ra).1, v, hI _ (n1 v hc) _ (Ev.congr (f := fun _ => some _) (fun k => ?_) (Ev.now _))⟩
        rcases q v hc with g | g | g
        · rw [if_neg (by rw [g]; simp)]
        · subst g
          simp only [outN, Bool.false_eq_true, if_false]
          split <;> rfl
        · simp only [decide_eq_false g, Bool.false_eq_true, if_false]
          split <;> (try split) <;> rfl
    obtain ⟨a, b, h⟩ := key
    exact eI _ h
  rcases cut_cases s with ⟨c1, c2, c3, c4⟩ | ⟨n, c1, c2, c3, c4, c5⟩
  · have hone := scut_none s s.size 0 0 (by omega) (fun j _ => c4 j)
    rw [hone] at hS
    refine bad (eS (0, 0, false) (Ev.congr (fun k => by unfold spec_l05Read.f; rfl) (Ev.bind hS (Ev.congr (f := fun _ => some _) (fun k => by rw [if_neg (by simp)]) (Ev.now _))))) (failI (fun v _ => Or.inl c1))
  · have hlt : n < s.size := by
      have := (List.getElem?_eq_some_iff.1 c4).1
      rwa [data_length] at this
    have htwo := scut_one s n c4 s.size 0 0 (by omega) (by omega) (fun j _ h => c5 j h)
    by_cases hmore : ∀ j : Nat, n + 1 ≤ j → s.data.toList[j]? ≠ some 47
    · have hrest := scut_none s (s.size - (n + 1)) (n + 1) (n + 1) (by omega) hmore
      rw [htwo, hrest, ← c2, ← c3] at hS
      have hSn := spec_num_ev (restB s)
      have hSr : ∀ r, Ev (fun k => if (outN ra).2 = true then (if (outN (canon (restB s).data.toList)).2 = true then ((spec_NetOK.f (outN ra).1 (outN (canon (restB s).data.toList)).1).bind fun t132 => (some ((outN ra).1, (outN (canon (restB s).data.toList)).1, t132))) else (some ((outN ra).1, (outN (canon (restB s).data.toList)).1, false))) else (some ((outN ra).1, (outN (canon (restB s).data.toList)).1, false))) r → Ev (fun k => spec_l05Read.f k s) r := fun r h => by
        refine Ev.congr (fun k => by unfold spec_l05Read.f; rfl) (Ev.bind hS ?_)
        refine Ev.congr (f := fun k => (spec_l01ReadAddress.f k (firstB s)).bind fun bt126 => ((spec_l00Number.f k (restB s)).bind fun bt129 => (if bt126.2 = true then (if bt129.2 = true then ((spec_NetOK.f bt126.1 bt129.1).bind fun t132 => (some (bt126.1, bt129.1, t132))) else (some (bt126.1, bt129.1, false))) else (some (bt126.1, bt129.1, false))))) (fun k => ?_) (Ev.bind haS (Ev.congr (f := fun k => (spec_l00Number.f k (restB s)).bind fun bt129 => (if (outN ra).2 = true then (if bt129.2 = true then ((spec_NetOK.f (outN ra).1 bt129.1).bind fun t132 => (some ((outN ra).1, bt129.1, t132))) else (some ((outN ra).1, bt129.1, false))) else (some ((outN ra).1, bt129.1, false)))) (fun k => rfl) (Ev.bind hSn h)))
        simp only [List.length_cons, List.length_nil]
        rfl
      cases hc : canon (restB s).data.toList with
      | none =>
        rw [hc] at hSr
        refine bad (eS ((outN ra).1, 0, false) (hSr _ (Ev.congr (f := fun _ => some _) (fun k => ?_) (Ev.now _)))) (failI (fun v h => by rw [hc] at h; cases h))
        simp only [outN, Bool.false_eq_true, if_false]
        split <;> rfl
      | some v =>
        rw [hc] at hSr
        cases ra with
        | none =>
          refine bad (eS (0, v, false) (hSr _ (Ev.congr (f := fun _ => some _) (fun k => ?_) (Ev.now _)))) (failI (fun v _ => Or.inr (Or.inl rfl)))
          simp only [outN, Bool.false_eq_true, if_false]
        | some a =>
          obtain ⟨r, e1, e2⟩ := netok_eq a v
          have hA : Ev (fun k => spec_ReadNet.f k s) (if r = true then (a, v, 0) else (0, 0, 3)) := by
            refine eS (a, v, r) (hSr _ (Ev.congr (f := fun _ => some _) (fun k => ?_) (Ev.now _)))
            simp only [outN, if_true, e1, Option.bind_some]
          by_cases hv : 0 ≤ v ∧ v ≤ 32
          · refine ⟨_, hA, eI (a, v, r) (hI _ (n1 v hc) _ (Ev.congr (f := fun _ => some _) (fun k => ?_) (Ev.now _)))⟩
            simp only [outN, if_true, c1, decide_eq_true hv, e2, Option.bind_some]
          · have hr : r = false := by
              cases r with
              | false => rfl
              | true => exact absurd (netok_true a v e1).2 hv
            subst hr
            exact bad hA (failI (fun v' h => by rw [hc] at h; injection h with h; subst h; exact Or.inr (Or.inr hv)))
    · have hlen : (scut s 0 0 s.size).length ≠ 2 := by
        obtain ⟨j, hj⟩ := Classical.not_forall.1 hmore
        obtain ⟨hj1, hj2⟩ := Classical.not_imp.1 hj
        have hj3 : s.data.toList[j]? = some 47 := Classical.not_not.1 hj2
        -- the next stroke
        have hex : ∃ m : Nat, n + 1 ≤ m ∧ s.data.toList[m]? = some 47 ∧ ∀ q, n + 1 ≤ q → q < m → s.data.toList[q]? ≠ some 47 := by
          have : ∀ d : Nat, ∀ m : Nat, n + 1 ≤ m → m ≤ n + 1 + d → s.data.toList[m]? = some 47 → ∃ m : Nat, n + 1 ≤ m ∧ s.data.toList[m]? = some 47 ∧ ∀ q, n + 1 ≤ q → q < m → s.data.toList[q]? ≠ some 47 := by
            intro d
            induction d with
            | zero => intro m h1 h2 h3; exact ⟨m, h1, h3, fun q h4 h5 => by omega⟩
            | succ d ih =>
              intro m h1 h2 h3
              by_cases hq : ∃ q, n + 1 ≤ q ∧ q < m ∧ s.data.toList[q]? = some 47
              · obtain ⟨q, g1, g2, g3⟩ := hq
                exact ih q g1 (by omega) g3
              · exact ⟨m, h1, h3, fun q h4 h5 h6 => hq ⟨q, h4, h5, h6⟩⟩
          exact this j j hj1 (by omega) hj3
        obtain ⟨m, m1, m2, m3⟩ := hex
        have := scut_one s m m2 (s.size - (n + 1)) (n + 1) (n + 1) (by omega) m1 m3
        rw [htwo, this]
        have := scut_pos s (s.size - (m + 1)) (m + 1) (m + 1)
        simp only [List.length_cons]; omega
      refine bad (eS (0, 0, false) (Ev.congr (fun k => by unfold spec_l05Read.f; rfl) (Ev.bind hS (Ev.congr (f := fun _ => some _) (fun k => by rw [if_neg (by omega)]) (Ev.now _))))) (failI (fun v h => ?_))
      exfalso
      obtain ⟨j, hj⟩ := Classical.not_forall.1 hmore
      obtain ⟨hj1, hj2⟩ := Classical.not_imp.1 hj
      have hj3 : s.data.toList[j]? = some 47 := Classical.not_not.1 hj2
      apply canon_no _ v h (j - (n + 1))
      rw [c3, ex_list, List.take_of_length_le (l := s.data.toList) (by rw [data_length]; exact Nat.le_refl _), List.getElem?_drop, show n + 1 + (j - (n + 1)) = j by omega]
      exact hj3
-- SAYS: ReadNet: an address, a stroke, a number of bits: cut at the first stroke by the program, at every one by the reference: no number's text has a stroke in it.
-- USES: Bytes Pieces NumText AddrRead NetOk NetRead
-- IMPORTS: Derived.Lib.SplitLaws Derived.Lib.CountLaws Derived.Lib.IndexBytes Derived.Lib.CutLaws Derived.Lib.ItoaLen Derived.Lib.AtoiAllCases
theorem FnExactReadNet : laws_FnExactReadNet.Pure := by
  intro s _
  apply Ev.rounds
  by_cases h0 : (s.size : Int) > 1048576
  · refine Ev.congr (fun k => ?_) (Ev.now true)
    unfold laws_FnExactReadNet.f; rw [if_pos h0]
  · have key : ∃ r, Ev (fun k => spec_ReadNet.f k s) r ∧ Ev (fun k => impl_ReadNet.f k s) r := by
      by_cases h1 : (s.size : Int) > 65536
      · exact ⟨(0, 0, 2), Ev.congr (f := fun _ => some _) (fun k => by unfold spec_ReadNet.f; rw [if_pos h1]) (Ev.now _), Ev.congr (f := fun _ => some _) (fun k => by unfold impl_ReadNet.f; rw [if_pos h1]) (Ev.now _)⟩
      · exact readNet_both s (by omega)
    obtain ⟨⟨r1, r2, r3⟩, hS, hI⟩ := key
    have hE : laws_eqNet.f r1 r2 r1 r2 = some true := by unfold laws_eqNet.f; rw [if_pos rfl, if_pos rfl]
    refine Ev.congr (fun k => by unfold laws_FnExactReadNet.f; rw [if_neg h0]) ?_
    refine Ev.bind hS (Ev.bind hI ?_)
    simp only [hE, Option.bind_some, if_true]
    exact Ev.now _

end Go.Proofs.YtpnbhgoblgbdkaaDoor.Pure
