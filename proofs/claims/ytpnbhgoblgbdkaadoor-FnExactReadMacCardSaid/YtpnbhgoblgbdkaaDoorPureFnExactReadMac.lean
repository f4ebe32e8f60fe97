/- ReadMac: a text is the text of six bytes, or it is refused by both: the program strikes the colons, reads digits and holds the text of what it read against what came in; the reference looks at each place. -/
import Derived.Test.YtpnbhgoblgbdkaaDoorPDmx2
import Derived.Test.YtpnbhgoblgbdkaaDoorBase
import Derived.Lib.SplitLaws
import Derived.Lib.CountLaws
import Derived.Lib.IndexBytes
import Derived.Lib.CutLaws
import Derived.Lib.Join
import Derived.Lib.Replace
set_option linter.unusedSimpArgs false
set_option linter.unusedVariables false
namespace Go.Proofs.YtpnbhgoblgbdkaaDoor.Pure
open Go.RowKit Go.Proofs.YtpnbhgoblgbdkaaDoor.PDm Go.Proofs.YtpnbhgoblgbdkaaDoorW.PrintWords Go.Proofs.YtpnbhgoblgbdkaaDoorW.PrintLast Go.Proofs.YtpnbhgoblgbdkaaDoorW.PrintMore Base

/-! ### rows of bytes and the strings of them -/
def Bytes (l : List Int) : Prop := ∀ x ∈ l, 0 ≤ x ∧ x < 256
theorem bytes_wf {l : List Int} (h : ∀ x ∈ l, (Lit.int .u8 x).wf = true) : Bytes l := fun x hx => wf_u8 (h x hx)
theorem bytes_take {l : List Int} (h : Bytes l) (n : Nat) : Bytes (l.take n) := fun x hx => h x (List.mem_of_mem_take hx)
theorem bytes_drop {l : List Int} (h : Bytes l) (n : Nat) : Bytes (l.drop n) := fun x hx => h x (List.mem_of_mem_drop hx)
theorem rd_nat (l : List Int) (i : Nat) : rd l (i : Int) = l.getD i 0 := by simp [rd]
theorem rd_at (l : List Int) (i : Nat) (h : i < l.length) : rd l (i : Int) = l[i] := by
  rw [rd_nat, List.getD_eq_getElem?_getD, List.getElem?_eq_getElem h]; rfl
theorem rd_byte {l : List Int} (h : Bytes l) (i : Nat) : 0 ≤ rd l (i : Int) ∧ rd l (i : Int) < 256 := by
  by_cases hi : i < l.length
  · rw [rd_at l i hi]; exact h _ (List.getElem_mem hi)
  · rw [rd_nat, List.getD_eq_getElem?_getD, List.getElem?_eq_none (by omega)]; simp
theorem str_bt {l : List Int} (h : Bytes l) (i : Nat) : bt (strOfNums l) (i : Int) = rd l (i : Int) := by
  rw [bt_nat, strOfNums_data, rd_nat, List.getD_eq_getElem?_getD, List.getD_eq_getElem?_getD, List.getElem?_map]
  by_cases hi : i < l.length
  · rw [List.getElem?_eq_getElem hi]
    simp only [Option.map_some, Option.getD_some]
    have := h _ (List.getElem_mem hi)
    rw [UInt8.toNat_ofNat']; omega
  · rw [List.getElem?_eq_none (by omega)]; rfl
theorem str_cut (l : List Int) (a b : Nat) : (strOfNums l).extract a b = strOfNums ((l.take b).drop a) := by
  apply toList_inj
  rw [toList_data, toList_data, strOfNums_data, ByteArray.data_extract, Array.toList_extract, List.extract_eq_take_drop, strOfNums_data, List.map_drop, List.map_take, List.drop_take]
theorem str_size (l : List Int) : (strOfNums l).size = l.length := strOfNums_size l

/-! ### the number of a row of bytes, high byte first -/
def num (l : List Int) : Int := l.foldl (fun n c => n * 256 + c) 0
theorem num_snoc (l : List Int) (c : Int) : num (l ++ [c]) = num l * 256 + c := by simp [num]
theorem num_take (l : List Int) (i : Nat) (h : i < l.length) : num (l.take (i + 1)) = num (l.take i) * 256 + l[i] := by
  rw [List.take_succ_eq_append_getElem h, num_snoc]
theorem num_0 {l : List Int} (h : Bytes l) : ∀ i, i ≤ l.length → 0 ≤ num (l.take i) ∧ num (l.take i) < 256 ^ i := by
  intro i
  induction i with
  | zero => intro _; rw [List.take_zero]; exact ⟨by decide, by decide⟩
  | succ i ih =>
    intro hi
    have h1 := ih (by omega)
    have h2 := h _ (List.getElem_mem (show i < l.length by omega))
    rw [num_take l i (by omega), Int.pow_succ]
    omega
theorem num_6 {l : List Int} (h : Bytes l) (i : Nat) (hi : i ≤ l.length) (h7 : i ≤ 6) : 0 ≤ num (l.take i) ∧ num (l.take i) < 281474976710656 := by
  have h1 := num_0 h i hi
  rcases (show i = 0 ∨ i = 1 ∨ i = 2 ∨ i = 3 ∨ i = 4 ∨ i = 5 ∨ i = 6 by omega) with e | e | e | e | e | e | e <;> rw [e] at h1 ⊢ <;> omega
theorem num_lt {l : List Int} (h : Bytes l) (n : Nat) (hn : l.length = n) : 0 ≤ num l ∧ num l < 256 ^ n := by
  have := num_0 h l.length (Nat.le_refl _)
  rw [List.take_length] at this; rw [hn] at this; exact this

/-! ### a string's bytes make the string -/
theorem str_bytesOf (a : ByteArray) : strOfNums (bytesOf a) = a := by
  apply toList_inj
  rw [toList_data, toList_data, strOfNums_data]
  unfold bytesOf
  rw [List.map_map]
  conv => rhs; rw [← List.map_id a.data.toList]
  apply List.map_congr_left
  intro x _
  simp [Function.comp]
theorem bytesOf_bytes (a : ByteArray) : Bytes (bytesOf a) := by
  intro x hx
  unfold bytesOf at hx
  obtain ⟨y, _, rfl⟩ := List.mem_map.1 hx
  have := y.toNat_lt
  exact ⟨by omega, by omega⟩
/-! ### two digits a byte -/
abbrev digs : ByteArray := ⟨#[48, 49, 50, 51, 52, 53, 54, 55, 56, 57, 97, 98, 99, 100, 101, 102]⟩
def nib (c : Int) : Int := Lib.indexByte digs.data.toList c.toNat.toUInt8
def nibS (c : Int) : Int := if 48 ≤ c ∧ c ≤ 57 then c - 48 else if 97 ≤ c ∧ c ≤ 102 then c - 87 else -1
theorem nib_all : ∀ n : Fin 256, nib ((n.val : Nat) : Int) = nibS ((n.val : Nat) : Int) := by decide +kernel
theorem nib_eq (c : Int) (h0 : 0 ≤ c) (h1 : c ≤ 255) : nib c = nibS c := by
  have := nib_all ⟨c.toNat, by omega⟩
  simpa [Int.toNat_of_nonneg h0] using this
theorem nibS_range (c : Int) : -1 ≤ nibS c ∧ nibS c ≤ 15 := by
  unfold nibS; (repeat' split) <;> omega
theorem dig_all : ∀ n : Fin 16, nibS (bt digs ((n.val : Nat) : Int)) = ((n.val : Nat) : Int) ∧ bt digs ((n.val : Nat) : Int) ≠ 58 := by decide +kernel
theorem dig_at (d : Int) (h0 : 0 ≤ d) (h1 : d < 16) : nibS (bt digs d) = d ∧ bt digs d ≠ 58 := by
  have := dig_all ⟨d.toNat, by omega⟩
  simpa [Int.toNat_of_nonneg h0] using this
theorem back_all : ∀ n : Fin 256, 0 ≤ nibS ((n.val : Nat) : Int) → bt digs (nibS ((n.val : Nat) : Int)) = ((n.val : Nat) : Int) := by decide +kernel
theorem back_at (c : Int) (h0 : 0 ≤ c) (h1 : c ≤ 255) (h : 0 ≤ nibS c) : bt digs (nibS c) = c := by
  have := back_all ⟨c.toNat, by omega⟩
  simp only [Int.toNat_of_nonneg h0] at this
  exact this h
def hexF (s : ByteArray) : Nat → Nat → Option (List Int)
  | 0, _ => some []
  | m + 1, j => if nibS (bt s ((2 * j : Nat) : Int)) < 0 then none else if nibS (bt s ((2 * j + 1 : Nat) : Int)) < 0 then none else (hexF s m (j + 1)).map fun l => (16 * nibS (bt s ((2 * j : Nat) : Int)) + nibS (bt s ((2 * j + 1 : Nat) : Int))) :: l
def outI (s : ByteArray) : Option (List Int) → ByteArray × Bool
  | none => (⟨#[]⟩, false)
  | some a => (strOfNums a, ((s.size : Int) % 2) == 0)
theorem two_byte (a b : Int) (h0 : 0 ≤ a) (h1 : a ≤ 15) (h2 : 0 ≤ b) (h3 : b ≤ 15) : (wrap64 (wrap64 (16 * a) + b)) % 256 = 16 * a + b := by
  rw [wrap64_id (x := 16 * a) (by omega) (by omega), wrap64_id (by omega) (by omega)]; omega
theorem hex_l0 (s : ByteArray) (hs : s.size ≤ 1048576) (d : Nat) : ∀ (j : Nat) (acc : List Int), j + d = s.size / 2 → acc.length = j → Ev (fun k => impl_readHex.l0 k s acc ((2 * j : Nat) : Int)) (outI s ((hexF s d j).map (acc ++ ·))) := by
  induction d with
  | zero =>
    intro j acc hj ha
    have w1 : wrap64 (((2 * j : Nat) : Int) + 1) = ((2 * j + 1 : Nat) : Int) := by rw [wrap64_id (by omega) (by omega)]; omega
    refine Ev.step (fun k => ?_) (Ev.now _)
    simp only [impl_readHex.l0, w1, hexF, Option.map_some, List.append_nil]; rw [if_neg (by omega)]; rfl
  | succ d ih =>
    intro j acc hj ha
    have w1 : wrap64 (((2 * j : Nat) : Int) + 1) = ((2 * j + 1 : Nat) : Int) := by rw [wrap64_id (by omega) (by omega)]; omega
    have w2 : wrap64 (((2 * j : Nat) : Int) + 2) = ((2 * (j + 1) : Nat) : Int) := by rw [wrap64_id (by omega) (by omega)]; omega
    have a0 := bt_0 s ((2 * j : Nat) : Int)
    have a1 := bt_255 s ((2 * j : Nat) : Int)
    have b0 := bt_0 s ((2 * j + 1 : Nat) : Int)
    have b1 := bt_255 s ((2 * j + 1 : Nat) : Int)
    have e1 := nib_eq _ a0 a1
    have e2 := nib_eq _ b0 b1
    have r1 := nibS_range (bt s ((2 * j : Nat) : Int))
    have r2 := nibS_range (bt s ((2 * j + 1 : Nat) : Int))
    have p1 : ((2 * j + 1 : Nat) : Int) < (s.size : Int) := by omega
    have p2 : (0 : Int) ≤ ((2 * j : Nat) : Int) := by omega
    have p3 : ((2 * j : Nat) : Int) < (s.size : Int) := by omega
    have p4 : (0 : Int) ≤ ((2 * j + 1 : Nat) : Int) := by omega
    have eI : ∀ r, Ev (fun k => if nib (bt s ((2 * j : Nat) : Int)) < 0 then some ((⟨#[]⟩ : ByteArray), false) else (if nib (bt s ((2 * j + 1 : Nat) : Int)) < 0 then some ((⟨#[]⟩ : ByteArray), false) else impl_readHex.l0 k s (acc ++ [(wrap64 ((wrap64 (16 * nib (bt s ((2 * j : Nat) : Int)))) + nib (bt s ((2 * j + 1 : Nat) : Int)))) % 256]) ((2 * (j + 1) : Nat) : Int))) r → Ev (fun k => impl_readHex.l0 k s acc ((2 * j : Nat) : Int)) r := fun r h => Ev.step (fun k => by
      simp only [impl_readHex.l0, w1, w2, strings_IndexByte.f]
      rw [if_pos p1, if_pos p2, if_pos p3]
      simp only [Option.bind_some]
      rw [if_pos p4]
      have : acc.length < 140737488355328 := by omega
      simp only [this, if_true]; rfl) h
    rw [e1, e2] at eI
    unfold hexF
    by_cases n1 : nibS (bt s ((2 * j : Nat) : Int)) < 0
    · rw [if_pos n1]
      exact eI _ (Ev.congr (fun k => by rw [if_pos n1]; rfl) (Ev.now _))
    · rw [if_neg n1]
      by_cases n2 : nibS (bt s ((2 * j + 1 : Nat) : Int)) < 0
      · rw [if_pos n2]
        exact eI _ (Ev.congr (fun k => by rw [if_neg n1, if_pos n2]; rfl) (Ev.now _))
      · rw [if_neg n2]
        rw [two_byte _ _ (by omega) (by omega) (by omega) (by omega)] at eI
        have h := ih (j + 1) (acc ++ [16 * nibS (bt s ((2 * j : Nat) : Int)) + nibS (bt s ((2 * j + 1 : Nat) : Int))]) (by omega) (by simp [ha])
        have e : ((hexF s d (j + 1)).map fun l => (16 * nibS (bt s ((2 * j : Nat) : Int)) + nibS (bt s ((2 * j + 1 : Nat) : Int))) :: l).map (acc ++ ·) = (hexF s d (j + 1)).map ((acc ++ [16 * nibS (bt s ((2 * j : Nat) : Int)) + nibS (bt s ((2 * j + 1 : Nat) : Int))]) ++ ·) := by
          rw [Option.map_map]; congr 1; funext l; simp
        rw [e]
        exact eI _ (Ev.congr (fun k => by rw [if_neg n1, if_neg n2]) h)
theorem hex_ev (s : ByteArray) (hs : s.size ≤ 1048576) : Ev (fun k => impl_readHex.f k s) (outI s (hexF s (s.size / 2) 0)) := by
  have h := hex_l0 s hs (s.size / 2) 0 [] (by omega) rfl
  have e : (hexF s (s.size / 2) 0).map (([] : List Int) ++ ·) = hexF s (s.size / 2) 0 := by cases hexF s (s.size / 2) 0 <;> simp
  rw [e] at h
  exact Ev.congr (fun k => by unfold impl_readHex.f; rfl) h
theorem hexF_ok (s : ByteArray) (L : List Int) (hB : Bytes L) : ∀ j : Nat, (∀ (k : Nat) (hk : k < L.length), bt s ((2 * (j + k) : Nat) : Int) = bt digs (L[k] / 16) ∧ bt s ((2 * (j + k) + 1 : Nat) : Int) = bt digs (L[k] % 16)) → hexF s L.length j = some L := by
  induction L with
  | nil => intro j _; rfl
  | cons x xs ih =>
    intro j h
    have hx := hB x (by simp)
    have h0 := h 0 (by simp)
    simp only [Nat.add_zero, List.getElem_cons_zero] at h0
    have d1 := (dig_at (x / 16) (by omega) (by omega)).1
    have d2 := (dig_at (x % 16) (by omega) (by omega)).1
    simp only [List.length_cons, hexF, h0.1, h0.2, d1, d2]
    rw [if_neg (by omega), if_neg (by omega), ih (fun y hy => hB y (by simp [hy])) (j + 1) (fun k hk => by
      have := h (k + 1) (by simp; omega)
      rw [show j + 1 + k = j + (k + 1) by omega]
      simpa using this)]
    simp only [Option.map_some]
    congr 2; omega
-- SAYS: ReadMac: a text is the text of six bytes, or it is refused by both: the program strikes the colons, reads digits and holds the text of what it read against what came in; the reference looks at each place.
-- USES: Bytes StrB Hex
-- IMPORTS: Derived.Lib.SplitLaws Derived.Lib.CountLaws Derived.Lib.IndexBytes Derived.Lib.CutLaws Derived.Lib.Join Derived.Lib.Replace
/-! ### the colons struck -/
theorem strike (n : Nat) : ∀ (s : List UInt8), s.length ≤ n → Lib.replaceK [58] [] (Lib.count s [58]) s = s.filter (fun x => !decide (x = 58)) := by
  induction n with
  | zero =>
    intro s hs
    obtain rfl := List.length_eq_zero_iff.1 (Nat.le_zero.1 hs)
    rw [Lib.count_miss (by rw [Lib.index_one]; rfl)]; rfl
  | succ n ih =>
    intro s hs
    have hc := Lib.index_one s 58
    by_cases hm : Lib.index s [58] = -1
    · rw [Lib.count_miss hm]
      rw [hc] at hm
      have hn := Lib.indexByte_none hm
      symm
      apply List.filter_eq_self.2
      intro x hx
      obtain ⟨i, hi, e⟩ := List.getElem_of_mem hx
      have := hn i
      rw [List.getElem?_eq_getElem hi, e] at this
      simpa using this
    · have hge := Lib.index_ge s [58]
      obtain ⟨i, hi⟩ : ∃ i : Nat, Lib.index s [58] = i := ⟨(Lib.index s [58]).toNat, by omega⟩
      rw [Lib.count_hit (by simp) hi, Nat.add_comm 1, Lib.replaceK_hit _ _ _ _ i hi]
      rw [hc] at hi
      obtain ⟨h1, h2⟩ := Lib.indexByte_some hi
      have hil : i < s.length := (List.getElem?_eq_some_iff.1 h1).1
      rw [show ([58] : List UInt8).length = 1 from rfl, ih _ (by rw [List.length_drop]; omega)]
      have hsplit : s = s.take i ++ (58 :: s.drop (i + 1)) := by
        have e := (List.getElem?_eq_some_iff.1 h1).2
        rw [← e, ← List.drop_eq_getElem_cons hil, List.take_append_drop]
      conv => rhs; rw [hsplit]
      rw [List.filter_append, List.filter_cons_of_neg (by simp), List.append_nil]
      congr 1
      symm
      apply List.filter_eq_self.2
      intro x hx
      obtain ⟨j, hj, e⟩ := List.getElem_of_mem hx
      have hj' : j < i := by rw [List.length_take] at hj; omega
      have := h2 j hj'
      rw [List.getElem?_eq_getElem (by omega)] at this
      rw [List.getElem_take] at e
      rw [e] at this
      simpa using this
theorem strike_all (s : List UInt8) : Lib.replaceAll s [58] [] = s.filter (fun x => !decide (x = 58)) := by
  unfold Lib.replaceAll Lib.replace Lib.replaceNum
  rw [if_neg (by decide), if_pos (Or.inl (by decide))]
  exact strike s.length s (Nat.le_refl _)
def struck (s : ByteArray) : ByteArray := ⟨(Lib.replaceAll s.data.toList [58] []).toArray⟩
theorem struck_size (s : ByteArray) : (struck s).size ≤ s.size := by
  rw [← data_length (struck s), ← data_length s]
  unfold struck
  rw [strike_all]
  show (List.filter (fun x => !decide (x = 58)) s.data.toList).toArray.toList.length ≤ _
  rw [List.toList_toArray]
  exact List.length_filter_le _ _
theorem struck_ev (s : ByteArray) (hs : s.size ≤ 65536) : strings_ReplaceAll.f s (⟨#[58]⟩ : ByteArray) (⟨#[]⟩ : ByteArray) = some (struck s) := by
  unfold strings_ReplaceAll.f
  rw [if_pos (by decide), if_pos (by omega), if_pos (by show s.size + _ * 0 ≤ _; omega)]; rfl
/-! ### the text of six bytes -/
def two (s : ByteArray) (i : Nat) : List Int := [bt digs (bt s (i : Int) / 16), bt digs (bt s (i : Int) % 16)]
def pt (s : ByteArray) : Nat → Nat → List ByteArray
  | 0, _ => []
  | m + 1, i => strOfNums (two s i) :: pt s m (i + 1)
def tx : List Int → Nat → List Int
  | [], _ => []
  | x :: xs, i => bt digs (x / 16) :: bt digs (x % 16) :: ((if i < 5 then [58] else []) ++ tx xs (i + 1))
theorem cut_bt (s : ByteArray) (i : Nat) (h : i < s.size) : bt (s.extract i (i + 1)) 0 = bt s (i : Int) := by
  rw [show (0 : Int) = ((0 : Nat) : Int) from rfl, bt_nat, bt_nat, ByteArray.data_extract, Array.toList_extract, List.extract_eq_take_drop, List.getD_eq_getElem?_getD, List.getD_eq_getElem?_getD, List.getElem?_take_of_lt (by omega), List.getElem?_drop, Nat.add_zero]
theorem impl_hex1 (s : ByteArray) (i : Nat) (h : i < s.size) : Ev (fun k => impl_hexText.f k (s.extract i (i + 1))) (strOfNums (two s i)) := by
  have hz : (s.extract i (i + 1)).size = 1 := by rw [ByteArray.size_extract]; omega
  have b0 := bt_0 s i
  have b1 := bt_255 s i
  have c1 : (0 : Int) ≤ bt s i / 16 := by omega
  have c2 : bt s i / 16 < 16 := by omega
  have c3 : (0 : Int) ≤ bt s i % 16 := by omega
  have c4 : bt s i % 16 < 16 := by omega
  have w1 : wrap64 ((0 : Int) + 1) = 1 := by rw [wrap64_id (by omega) (by omega)]; rfl
  refine Ev.congr (f := fun k => impl_hexText.l0 k (s.extract i (i + 1)) [] 1 0) (fun k => by unfold impl_hexText.f; rw [hz]; rfl) ?_
  refine Ev.step (f := fun k => impl_hexText.l0 k (s.extract i (i + 1)) (two s i) 1 1) (fun k => ?_) (Ev.step (fun k => ?_) (Ev.now _))
  · simp only [impl_hexText.l0, nib_hi, nib_lo, cut_bt s i h, hz, w1]
    rw [if_pos (by decide), if_pos (by decide), if_pos (by decide), if_pos c1, if_pos c2, if_pos c3, if_pos c4]
    simp only [Option.bind_some, List.length_cons, List.length_nil]
    rw [if_pos (by decide)]; rfl
  · simp only [impl_hexText.l0]; rw [if_neg (by decide)]
theorem impl_mac_l0 (s : ByteArray) (hs : s.size = 6) (r : ByteArray) (m : Nat) : ∀ (i : Nat) (acc : List ByteArray), i + m = 6 → acc.length ≤ i → strings_Join.f (acc ++ pt s m i) ⟨#[58]⟩ = some r → Ev (fun k => impl_macText.l0 k s acc (i : Int)) r := by
  induction m with
  | zero =>
    intro i acc hi _ hj
    refine Ev.step (f := fun _ => some r) (fun k => ?_) (Ev.now _)
    simp only [pt, List.append_nil] at hj
    simp only [impl_macText.l0]; rw [if_neg (by omega), hj]; rfl
  | succ m ih =>
    intro i acc hi ha hj
    have hw : wrap64 ((i : Int) + 1) = ((i + 1 : Nat) : Int) := by rw [wrap64_id (by omega) (by omega)]; omega
    have h := ih (i + 1) (acc ++ [strOfNums (two s i)]) (by omega) (by simp; omega) (by rw [List.append_assoc]; exact hj)
    refine Ev.step (f := fun k => (impl_hexText.f k (s.extract i (i + 1))).bind fun t133 => (if acc.length < 8796093022208 then (impl_macText.l0 k s (acc ++ [t133]) ((i + 1 : Nat) : Int)) else none)) (fun k => ?_) (Ev.bind (impl_hex1 s i (by omega)) ?_)
    · simp only [impl_macText.l0, hw, Int.toNat_natCast]
      rw [if_pos (by omega), if_pos (by omega), if_pos (by omega), if_pos (by omega)]
    · refine Ev.congr (fun k => ?_) h
      rw [if_pos (by omega)]
theorem six (L : List Int) (h : L.length = 6) : ∃ a b c d e f, L = [a, b, c, d, e, f] := by
  match L, h with
  | [a, b, c, d, e, f], _ => exact ⟨a, b, c, d, e, f, rfl⟩
theorem bt_L (M : ByteArray) (L : List Int) (hL : bytesOf M = L) (i : Nat) (h : i < L.length) : bt M (i : Int) = L[i] := by
  subst hL
  have := str_bt (bytesOf_bytes M) i
  rw [str_bytesOf] at this
  rw [this, rd_at _ i h]
theorem text_ev (M : ByteArray) (hM : M.size = 6) : Ev (fun k => impl_macText.f k M) (strOfNums (tx (bytesOf M) 0)) := by
  obtain ⟨a, b, c, d, e, f, hL⟩ := six (bytesOf M) (by rw [bytesOf_length, hM])
  have h0 : bt M 0 = a := bt_L M _ hL 0 (by simp)
  have h1 : bt M 1 = b := bt_L M _ hL 1 (by simp)
  have h2 : bt M 2 = c := bt_L M _ hL 2 (by simp)
  have h3 : bt M 3 = d := bt_L M _ hL 3 (by simp)
  have h4 : bt M 4 = e := bt_L M _ hL 4 (by simp)
  have h5 : bt M 5 = f := bt_L M _ hL 5 (by simp)
  refine Ev.congr (fun k => rfl) (impl_mac_l0 M hM _ 6 0 [] (by omega) (by simp) ?_)
  have e : (Lib.join (([] ++ pt M 6 0).map (fun x : ByteArray => x.data.toList)) (⟨#[58]⟩ : ByteArray).data.toList) = (tx (bytesOf M) 0).map fun n => UInt8.ofNat n.toNat := by
    rw [hL]
    simp [pt, tx, two, Lib.join, strOfNums_data, h0, h1, h2, h3, h4, h5]
  unfold strings_Join.f
  rw [e, if_neg (by simp [pt]), if_pos (by simp [pt]), if_pos (by rw [hL]; simp [tx])]
  rfl
theorem tx_len (L : List Int) (h : L.length = 6) : (tx L 0).length = 17 := by
  obtain ⟨a, b, c, d, e, f, rfl⟩ := six L h
  rfl
theorem tx_bytes (L : List Int) : ∀ i, Bytes (tx L i) := by
  induction L with
  | nil => intro i x hx; simp [tx] at hx
  | cons y ys ih =>
    intro i x hx
    simp only [tx, List.mem_cons, List.mem_append] at hx
    rcases hx with e | e | e | e
    · subst e; exact ⟨bt_0 _ _, by have := bt_255 digs (y / 16); omega⟩
    · subst e; exact ⟨bt_0 _ _, by have := bt_255 digs (y % 16); omega⟩
    · split at e
      · simp at e; subst e; exact ⟨by omega, by omega⟩
      · simp at e
    · exact ih (i + 1) x e
/-! ### what the reference reads -/
def sm (s : ByteArray) : Nat → Nat → Option (List Int)
  | 0, _ => some []
  | m + 1, i => if nibS (bt s ((3 * i : Nat) : Int)) < 0 then none else if nibS (bt s ((3 * i + 1 : Nat) : Int)) < 0 then none else if i < 5 ∧ bt s ((3 * i + 2 : Nat) : Int) ≠ 58 then none else (sm s m (i + 1)).map fun l => (16 * nibS (bt s ((3 * i : Nat) : Int)) + nibS (bt s ((3 * i + 1 : Nat) : Int))) :: l
def outS : Option (List Int) → ByteArray × Int
  | none => (⟨#[]⟩, 3)
  | some a => (strOfNums a, 0)
theorem half_at (c : Int) (h0 : 0 ≤ c) (h1 : c ≤ 255) : spec_l01Half.f c = some (nibS c) := by
  unfold spec_l01Half.f spec_l00Digit.f nibS
  by_cases g : 48 ≤ c ∧ c ≤ 57
  · rw [if_pos g, if_pos (c := c ≥ 48) g.1, Option.bind_some, decide_eq_true g.2, if_pos rfl]; congr 1; omega
  · have hd : (if c ≥ 48 then some (decide (c ≤ 57)) else some false) = some false := by
      by_cases g1 : c ≥ 48
      · rw [if_pos g1, decide_eq_false (fun x => g ⟨g1, x⟩)]
      · rw [if_neg g1]
    rw [if_neg g, hd, Option.bind_some, if_neg (c := false = true) (by simp)]
    by_cases g3 : 97 ≤ c ∧ c ≤ 102
    · rw [if_pos g3, if_pos (c := c ≥ 97) g3.1, if_pos (c := c ≤ 102) g3.2]; congr 1; omega
    · rw [if_neg g3]
      by_cases g4 : c ≥ 97
      · rw [if_pos g4, if_neg (fun x => g3 ⟨g4, x⟩)]
      · rw [if_neg g4]
theorem sm_l0 (s : ByteArray) (hs : s.size = 17) (m : Nat) : ∀ (i : Nat) (acc : List Int), i + m = 6 → acc.length = i → Ev (fun k => spec_ReadMac.l0 k s acc (i : Int)) (outS ((sm s m i).map (acc ++ ·))) := by
  induction m with
  | zero =>
    intro i acc hi ha
    refine Ev.step (fun k => ?_) (Ev.now _)
    simp only [spec_ReadMac.l0, sm, Option.map_some, List.append_nil]; rw [if_neg (by omega)]; rfl
  | succ m ih =>
    intro i acc hi ha
    have w3 : wrap64 (3 * (i : Int)) = ((3 * i : Nat) : Int) := by rw [wrap64_id (by omega) (by omega)]; omega
    have w31 : wrap64 (((3 * i : Nat) : Int) + 1) = ((3 * i + 1 : Nat) : Int) := by rw [wrap64_id (by omega) (by omega)]; omega
    have w32 : wrap64 (((3 * i : Nat) : Int) + 2) = ((3 * i + 2 : Nat) : Int) := by rw [wrap64_id (by omega) (by omega)]; omega
    have w1 : wrap64 ((i : Int) + 1) = ((i + 1 : Nat) : Int) := by rw [wrap64_id (by omega) (by omega)]; omega
    have e1 := half_at (bt s ((3 * i : Nat) : Int)) (bt_0 _ _) (bt_255 _ _)
    have e2 := half_at (bt s ((3 * i + 1 : Nat) : Int)) (bt_0 _ _) (bt_255 _ _)
    have r1 := nibS_range (bt s ((3 * i : Nat) : Int))
    have r2 := nibS_range (bt s ((3 * i + 1 : Nat) : Int))
    have hal : acc.length < 140737488355328 := by omega
    have eS : ∀ r, Ev (fun k => if nibS (bt s ((3 * i : Nat) : Int)) < 0 then some ((⟨#[]⟩ : ByteArray), (3 : Int)) else if nibS (bt s ((3 * i + 1 : Nat) : Int)) < 0 then some ((⟨#[]⟩ : ByteArray), 3) else if i < 5 ∧ bt s ((3 * i + 2 : Nat) : Int) ≠ 58 then some ((⟨#[]⟩ : ByteArray), 3) else spec_ReadMac.l0 k s (acc ++ [(wrap64 ((wrap64 (16 * nibS (bt s ((3 * i : Nat) : Int)))) + nibS (bt s ((3 * i + 1 : Nat) : Int)))) % 256]) ((i + 1 : Nat) : Int)) r → Ev (fun k => spec_ReadMac.l0 k s acc (i : Int)) r := fun r h => by
      refine Ev.step (fun k => ?_) h
      simp only [spec_ReadMac.l0, w3, w31, w32, w1, e1, e2, Option.bind_some, hal, if_true]
      rw [if_pos (by omega), if_pos (by omega), if_pos (by omega), if_pos (by omega), if_pos (by omega)]
      by_cases h5 : i < 5
      · have q0 : (0 : Int) ≤ ((3 * i + 2 : Nat) : Int) := by omega
        have q1 : ((3 * i + 2 : Nat) : Int) < (s.size : Int) := by omega
        rw [if_pos (by omega : (i : Int) < 5), if_pos q0, if_pos q1]
        by_cases h58 : bt s ((3 * i + 2 : Nat) : Int) = 58
        · rw [if_pos h58, if_neg (c := i < 5 ∧ bt s ((3 * i + 2 : Nat) : Int) ≠ 58) (fun x => x.2 h58)]
        · rw [if_neg h58, if_pos (c := i < 5 ∧ _) ⟨h5, h58⟩]
      · rw [if_neg (by omega : ¬ (i : Int) < 5), if_neg (c := i < 5 ∧ _) (fun x => h5 x.1)]
    unfold sm
    by_cases n1 : nibS (bt s ((3 * i : Nat) : Int)) < 0
    · rw [if_pos n1]
      exact eS _ (Ev.congr (fun k => by rw [if_pos n1]; rfl) (Ev.now _))
    · rw [if_neg n1]
      by_cases n2 : nibS (bt s ((3 * i + 1 : Nat) : Int)) < 0
      · rw [if_pos n2]
        exact eS _ (Ev.congr (fun k => by rw [if_neg n1, if_pos n2]; rfl) (Ev.now _))
      · rw [if_neg n2]
        by_cases n3 : i < 5 ∧ bt s ((3 * i + 2 : Nat) : Int) ≠ 58
        · rw [if_pos n3]
          exact eS _ (Ev.congr (fun k => by rw [if_neg n1, if_neg n2, if_pos n3]; rfl) (Ev.now _))
        · rw [if_neg n3]
          rw [two_byte _ _ (by omega) (by omega) (by omega) (by omega)] at eS
          have h := ih (i + 1) (acc ++ [16 * nibS (bt s ((3 * i : Nat) : Int)) + nibS (bt s ((3 * i + 1 : Nat) : Int))]) (by omega) (by simp [ha])
          have e : ((sm s m (i + 1)).map fun l => (16 * nibS (bt s ((3 * i : Nat) : Int)) + nibS (bt s ((3 * i + 1 : Nat) : Int))) :: l).map (acc ++ ·) = (sm s m (i + 1)).map ((acc ++ [16 * nibS (bt s ((3 * i : Nat) : Int)) + nibS (bt s ((3 * i + 1 : Nat) : Int))]) ++ ·) := by
            rw [Option.map_map]; congr 1; funext l; simp
          rw [e]
          exact eS _ (Ev.congr (fun k => by rw [if_neg n1, if_neg n2, if_neg n3]) h)
theorem bytes_at (s : ByteArray) (i : Nat) (h : i < (bytesOf s).length) : (bytesOf s)[i] = bt s (i : Int) := (bt_L s _ rfl i h).symm
theorem sm_some (s : ByteArray) (hs : s.size = 17) (m : Nat) : ∀ (i : Nat) (L : List Int), i + m = 6 → sm s m i = some L → (bytesOf s).drop (3 * i) = tx L i ∧ L.length = m ∧ Bytes L := by
  induction m with
  | zero =>
    intro i L hi h
    obtain rfl := Option.some.inj h
    exact ⟨List.drop_eq_nil_of_le (by rw [bytesOf_length]; omega), rfl, fun x hx => by simp at hx⟩
  | succ m ih =>
    intro i L hi h
    unfold sm at h
    have r1 := nibS_range (bt s ((3 * i : Nat) : Int))
    have r2 := nibS_range (bt s ((3 * i + 1 : Nat) : Int))
    by_cases n1 : nibS (bt s ((3 * i : Nat) : Int)) < 0
    · rw [if_pos n1] at h; cases h
    rw [if_neg n1] at h
    by_cases n2 : nibS (bt s ((3 * i + 1 : Nat) : Int)) < 0
    · rw [if_pos n2] at h; cases h
    rw [if_neg n2] at h
    by_cases n3 : i < 5 ∧ bt s ((3 * i + 2 : Nat) : Int) ≠ 58
    · rw [if_pos n3] at h; cases h
    rw [if_neg n3] at h
    obtain ⟨l, hl, rfl⟩ := Option.map_eq_some_iff.1 h
    obtain ⟨h1, h2, h3⟩ := ih (i + 1) l (by omega) hl
    have b1 := back_at (bt s ((3 * i : Nat) : Int)) (bt_0 _ _) (bt_255 _ _) (by omega)
    have b2 := back_at (bt s ((3 * i + 1 : Nat) : Int)) (bt_0 _ _) (bt_255 _ _) (by omega)
    refine ⟨?_, by simp [h2], fun x hx => ?_⟩
    · have hlen : (bytesOf s).length = 17 := by rw [bytesOf_length, hs]
      have e1 : (16 * nibS (bt s ((3 * i : Nat) : Int)) + nibS (bt s ((3 * i + 1 : Nat) : Int))) / 16 = nibS (bt s ((3 * i : Nat) : Int)) := by omega
      have e2 : (16 * nibS (bt s ((3 * i : Nat) : Int)) + nibS (bt s ((3 * i + 1 : Nat) : Int))) % 16 = nibS (bt s ((3 * i + 1 : Nat) : Int)) := by omega
      simp only [tx, e1, e2, b1, b2]
      rw [List.drop_eq_getElem_cons (by omega), List.drop_eq_getElem_cons (by omega), bytes_at, bytes_at, ← h1]
      congr 2
      by_cases h5 : i < 5
      · have h58 : bt s ((3 * i + 2 : Nat) : Int) = 58 := Classical.byContradiction fun x => n3 ⟨h5, x⟩
        rw [if_pos h5, List.drop_eq_getElem_cons (by omega), bytes_at]
        simp only [List.cons_append, List.nil_append]
        rw [show 3 * i + 1 + 1 = 3 * i + 2 by omega, h58, show 3 * i + 2 + 1 = 3 * (i + 1) by omega]
      · rw [if_neg h5, List.nil_append, List.drop_eq_nil_of_le (by omega), List.drop_eq_nil_of_le (by omega)]
    · rcases List.mem_cons.1 hx with e | e
      · subst e; omega
      · exact h3 x e
theorem sm_of (s : ByteArray) (hs : s.size = 17) (m : Nat) : ∀ (i : Nat) (L : List Int), i + m = 6 → (bytesOf s).drop (3 * i) = tx L i → L.length = m → Bytes L → sm s m i = some L := by
  induction m with
  | zero =>
    intro i L hi _ h _
    obtain rfl := List.length_eq_zero_iff.1 h; rfl
  | succ m ih =>
    intro i L hi h hL hB
    match L, hL with
    | x :: xs, hL =>
      have hx := hB x (by simp)
      have hlen : (bytesOf s).length = 17 := by rw [bytesOf_length, hs]
      simp only [tx] at h
      rw [List.drop_eq_getElem_cons (by omega), List.drop_eq_getElem_cons (by omega), bytes_at, bytes_at] at h
      injection h with g1 h
      injection h with g2 h
      have d1 := (dig_at (x / 16) (by omega) (by omega)).1
      have d2 := (dig_at (x % 16) (by omega) (by omega)).1
      rw [← g1] at d1
      rw [← g2] at d2
      have hrest : (i < 5 → bt s ((3 * i + 2 : Nat) : Int) = 58) ∧ (bytesOf s).drop (3 * (i + 1)) = tx xs (i + 1) := by
        by_cases h5 : i < 5
        · rw [if_pos h5, List.drop_eq_getElem_cons (by omega), bytes_at] at h
          simp only [List.cons_append, List.nil_append] at h
          injection h with g3 h
          exact ⟨fun _ => g3, by rw [show 3 * (i + 1) = 3 * i + 1 + 1 + 1 by omega]; exact h⟩
        · rw [if_neg h5, List.nil_append, List.drop_eq_nil_of_le (by omega)] at h
          exact ⟨fun g => absurd g h5, by rw [List.drop_eq_nil_of_le (by omega)]; exact h⟩
      unfold sm
      rw [d1, d2, if_neg (by omega), if_neg (by omega), if_neg (fun n3 => n3.2 (hrest.1 n3.1)), ih (i + 1) xs (by omega) hrest.2 (by simpa using hL) (fun y hy => hB y (by simp [hy]))]
      simp only [Option.map_some]
      congr 2; omega
/-! ### both -/
theorem struck_tx (s : ByteArray) (L : List Int) (hL : L.length = 6) (hB : Bytes L) (h : bytesOf s = tx L 0) : (struck s).size = 12 ∧ hexF (struck s) 6 0 = some L := by
  have hs : s.data.toList = (tx L 0).map fun n => UInt8.ofNat n.toNat := by
    have := str_bytesOf s
    rw [h] at this
    rw [← this, strOfNums_data]
  have ne : ∀ d : Int, 0 ≤ d → d < 16 → UInt8.ofNat (bt digs d).toNat ≠ 58 := fun d h0 h1 e => by
    have h2 := (dig_at d h0 h1).2
    have b0 := bt_0 digs d
    have b1 := bt_255 digs d
    have := congrArg UInt8.toNat e
    rw [UInt8.toNat_ofNat'] at this
    apply h2
    have e58 : (58 : UInt8).toNat = 58 := rfl
    omega
  obtain ⟨a, b, c, d, e, f, rfl⟩ := six L hL
  have ra := hB a (by simp)
  have rb := hB b (by simp)
  have rc := hB c (by simp)
  have rd_ := hB d (by simp)
  have re := hB e (by simp)
  have rf := hB f (by simp)
  have hd : (struck s).data.toList = [UInt8.ofNat (bt digs (a / 16)).toNat, UInt8.ofNat (bt digs (a % 16)).toNat, UInt8.ofNat (bt digs (b / 16)).toNat, UInt8.ofNat (bt digs (b % 16)).toNat, UInt8.ofNat (bt digs (c / 16)).toNat, UInt8.ofNat (bt digs (c % 16)).toNat, UInt8.ofNat (bt digs (d / 16)).toNat, UInt8.ofNat (bt digs (d % 16)).toNat, UInt8.ofNat (bt digs (e / 16)).toNat, UInt8.ofNat (bt digs (e % 16)).toNat, UInt8.ofNat (bt digs (f / 16)).toNat, UInt8.ofNat (bt digs (f % 16)).toNat] := by
    unfold struck
    rw [strike_all, hs]
    simp [tx, ne (a / 16) (by omega) (by omega), ne (a % 16) (by omega) (by omega), ne (b / 16) (by omega) (by omega), ne (b % 16) (by omega) (by omega), ne (c / 16) (by omega) (by omega), ne (c % 16) (by omega) (by omega), ne (d / 16) (by omega) (by omega), ne (d % 16) (by omega) (by omega), ne (e / 16) (by omega) (by omega), ne (e % 16) (by omega) (by omega), ne (f / 16) (by omega) (by omega), ne (f % 16) (by omega) (by omega)]
  have tn : ∀ d : Int, ((UInt8.ofNat (bt digs d).toNat).toNat : Int) = bt digs d := fun d => by
    have b0 := bt_0 digs d
    have b1 := bt_255 digs d
    rw [UInt8.toNat_ofNat']; omega
  refine ⟨by rw [← data_length, hd]; rfl, hexF_ok (struck s) _ hB 0 (fun k hk => ?_)⟩
  simp only [List.length_cons, List.length_nil] at hk
  rw [bt_nat, bt_nat, hd]
  rcases (show k = 0 ∨ k = 1 ∨ k = 2 ∨ k = 3 ∨ k = 4 ∨ k = 5 by omega) with g | g | g | g | g | g <;> subst g <;> exact ⟨tn _, tn _⟩
theorem readMac_both (s : ByteArray) (hs : s.size ≤ 65536) : ∃ r, Ev (fun k => spec_ReadMac.f k s) r ∧ Ev (fun k => impl_ReadMac.f k s) r := by
  have hz := struck_size s
  have hx := hex_ev (struck s) (by omega)
  have hI : ∀ r, Ev (fun k => if (outI (struck s) (hexF (struck s) ((struck s).size / 2) 0)).2 = true then ((impl_macOK.f (outI (struck s) (hexF (struck s) ((struck s).size / 2) 0)).1).bind fun t144 => (if t144 = true then ((impl_macText.f k (outI (struck s) (hexF (struck s) ((struck s).size / 2) 0)).1).bind fun t145 => (if t145.toList = s.toList then some ((outI (struck s) (hexF (struck s) ((struck s).size / 2) 0)).1, (0 : Int)) else some ((⟨#[]⟩ : ByteArray), 3))) else some ((⟨#[]⟩ : ByteArray), 3))) else some ((⟨#[]⟩ : ByteArray), 3)) r → Ev (fun k => impl_ReadMac.f k s) r := fun r h => by
    refine Ev.congr (fun k => by unfold impl_ReadMac.f; rw [if_neg (by omega), struck_ev s hs, Option.bind_some]) ?_
    exact Ev.bind hx h
  by_cases good : ∃ L : List Int, L.length = 6 ∧ Bytes L ∧ bytesOf s = tx L 0
  · obtain ⟨L, hL, hB, h⟩ := good
    have h17 : s.size = 17 := by rw [← bytesOf_length, h, tx_len L hL]
    have e1 := sm_of s h17 6 0 L rfl (by rw [Nat.mul_zero, List.drop_zero]; exact h) hL hB
    have hS := sm_l0 s h17 6 0 [] rfl rfl
    rw [e1] at hS
    obtain ⟨z12, hh⟩ := struck_tx s L hL hB h
    have hb : bytesOf (strOfNums L) = L := by
      unfold bytesOf
      rw [strOfNums_data, List.map_map]
      conv => rhs; rw [← List.map_id L]
      apply List.map_congr_left
      intro x hx
      have := hB x hx
      simp only [Function.comp, UInt8.toNat_ofNat', id]; omega
    have hM : (strOfNums L).size = 6 := by rw [str_size, hL]
    have ht := text_ev (strOfNums L) hM
    rw [hb, ← h, str_bytesOf] at ht
    refine ⟨(strOfNums L, 0), Ev.congr (fun k => by unfold spec_ReadMac.f; rw [if_neg (by omega), if_pos (by omega)]; rfl) hS, hI _ ?_⟩
    rw [z12, show 12 / 2 = 6 from rfl, hh]
    have o2 : (outI (struck s) (some L)).2 = true := by simp only [outI, z12]; rfl
    have o1 : (outI (struck s) (some L)).1 = strOfNums L := rfl
    rw [o1, o2]
    have ok : impl_macOK.f (strOfNums L) = some true := by unfold impl_macOK.f; rw [hM]; rfl
    refine Ev.congr (fun k => by rw [if_pos rfl, ok, Option.bind_some, if_pos rfl]) (Ev.bind ht ?_)
    exact Ev.congr (f := fun _ => some _) (fun k => by rw [if_pos rfl]) (Ev.now _)
  · refine ⟨(⟨#[]⟩, 3), ?_, hI _ ?_⟩
    · by_cases h17 : s.size = 17
      · have hS := sm_l0 s h17 6 0 [] rfl rfl
        have e1 : sm s 6 0 = none := by
          cases e : sm s 6 0 with
          | none => rfl
          | some L =>
            obtain ⟨h1, h2, h3⟩ := sm_some s h17 6 0 L rfl e
            rw [Nat.mul_zero, List.drop_zero] at h1
            exact absurd ⟨L, h2, h3, h1⟩ good
        rw [e1] at hS
        exact Ev.congr (fun k => by unfold spec_ReadMac.f; rw [if_neg (by omega), if_pos (by omega)]; rfl) hS
      · exact Ev.congr (f := fun _ => some _) (fun k => by unfold spec_ReadMac.f; rw [if_neg (by omega), if_neg (by omega)]) (Ev.now _)
    · obtain ⟨M, ok, e⟩ : ∃ M ok, outI (struck s) (hexF (struck s) ((struck s).size / 2) 0) = (M, ok) := ⟨_, _, rfl⟩
      rw [e]
      cases ok with
      | false => exact Ev.congr (f := fun _ => some _) (fun k => by rw [if_neg (by simp)]) (Ev.now _)
      | true =>
        by_cases hM : M.size = 6
        · have ok : impl_macOK.f M = some true := by unfold impl_macOK.f; rw [hM]; rfl
          have hne : (strOfNums (tx (bytesOf M) 0)).toList ≠ s.toList := fun h => by
            have h := toList_inj h
            apply good
            refine ⟨bytesOf M, by rw [bytesOf_length, hM], bytesOf_bytes M, ?_⟩
            rw [← h]
            unfold bytesOf
            rw [strOfNums_data, List.map_map]
            conv => rhs; rw [← List.map_id (tx _ 0)]
            apply List.map_congr_left
            intro x hx
            have := tx_bytes _ 0 x hx
            simp only [Function.comp, UInt8.toNat_ofNat', id]; omega
          refine Ev.congr (fun k => by rw [if_pos rfl, ok, Option.bind_some, if_pos rfl]) (Ev.bind (text_ev M hM) ?_)
          exact Ev.congr (f := fun _ => some _) (fun k => by rw [if_neg hne]) (Ev.now _)
        · have ok : impl_macOK.f M = some false := by unfold impl_macOK.f; congr 1; simp; omega
          exact Ev.congr (f := fun _ => some _) (fun k => by rw [if_pos rfl, ok, Option.bind_some, if_neg (by simp)]) (Ev.now _)
theorem FnExactReadMac : laws_FnExactReadMac.Pure := by
  intro s _
  apply Ev.rounds
  by_cases h0 : (s.size : Int) > 1048576
  · refine Ev.congr (fun k => ?_) (Ev.now true)
    unfold laws_FnExactReadMac.f; rw [if_pos h0]
  · have key : ∃ r, Ev (fun k => spec_ReadMac.f k s) r ∧ Ev (fun k => impl_ReadMac.f k s) r := by
      by_cases h1 : (s.size : Int) > 65536
      · exact ⟨(⟨#[]⟩, 2), Ev.congr (f := fun _ => some _) (fun k => by unfold spec_ReadMac.f; rw [if_pos h1]) (Ev.now _), Ev.congr (f := fun _ => some _) (fun k => by unfold impl_ReadMac.f; rw [if_pos h1]) (Ev.now _)⟩
      · exact readMac_both s (by omega)
    obtain ⟨⟨r1, r2⟩, hS, hI⟩ := key
    refine Ev.congr (fun k => by unfold laws_FnExactReadMac.f; rw [if_neg h0]) ?_
    refine Ev.bind hS (Ev.bind hI ?_)
    simp only [if_true]
    exact Ev.now _

end Go.Proofs.YtpnbhgoblgbdkaaDoor.Pure
