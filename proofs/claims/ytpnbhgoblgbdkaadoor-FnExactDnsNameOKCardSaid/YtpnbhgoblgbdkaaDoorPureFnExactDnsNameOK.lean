/- DnsNameOK: the pieces between the dots are the same, and each is looked at byte by byte. -/
import Derived.Test.YtpnbhgoblgbdkaaDoorPDnWalk
import Derived.Test.YtpnbhgoblgbdkaaDoorBase
import Derived.Lib.SplitLaws
import Derived.Lib.CountLaws
import Derived.Lib.IndexBytes
import Derived.Lib.CutLaws
set_option linter.unusedSimpArgs false
set_option linter.unusedVariables false
namespace Go.Proofs.YtpnbhgoblgbdkaaDoor.Pure
open Go.RowKit Go.Proofs.YtpnbhgoblgbdkaaDoor.PDn Go.Proofs.YtpnbhgoblgbdkaaDoorW.PrintWords Go.Proofs.YtpnbhgoblgbdkaaDoorW.PrintLast Go.Proofs.YtpnbhgoblgbdkaaDoorW.PrintMore Base
-- SAYS: DnsNameOK: the pieces between the dots are the same, and each is looked at byte by byte.
-- IMPORTS: Derived.Lib.SplitLaws Derived.Lib.CountLaws Derived.Lib.IndexBytes Derived.Lib.CutLaws
theorem conv (t : ByteArray) : Lib.indexB t ⟨#[46]⟩ = Lib.indexByte t.data.toList 46 := Lib.index_one t.data.toList 46
theorem one_miss (t : ByteArray) (h : ∀ j : Nat, t.data.toList[j]? ≠ some 46) : Lib.indexB t ⟨#[46]⟩ = -1 := by
  rcases Lib.indexB_cases t ⟨#[46]⟩ with e | ⟨i, e, _⟩
  · exact e
  · rw [conv] at e
    exact absurd (Lib.indexByte_some e).1 (h i)
theorem one_hit (t : ByteArray) (n : Nat) (h : t.data.toList[n]? = some 46) (hno : ∀ j : Nat, j < n → t.data.toList[j]? ≠ some 46) : Lib.indexB t ⟨#[46]⟩ = n := by
  rcases Lib.indexB_cases t ⟨#[46]⟩ with e | ⟨i, e, _⟩
  · rw [conv] at e
    exact absurd h (Lib.indexByte_none e n)
  · have e2 := e
    rw [conv] at e
    obtain ⟨h1, h2⟩ := Lib.indexByte_some e
    rw [e2]
    rcases Nat.lt_trichotomy i n with q | q | q
    · exact absurd h1 (hno i q)
    · rw [q]
    · exact absurd h (h2 n q)
theorem ex_list (s : ByteArray) (a n : Nat) : (s.extract a n).data.toList = (s.data.toList.take n).drop a := by
  rw [ByteArray.data_extract, Array.toList_extract, List.extract_eq_take_drop, List.drop_take]
theorem ex_ex (s : ByteArray) (a b c : Nat) (h : a + c ≤ s.size) : (s.extract a s.size).extract b c = s.extract (a + b) (a + c) := by
  apply toList_inj
  rw [toList_data, toList_data, ex_list, ex_list, ex_list, List.take_of_length_le (l := s.data.toList) (by rw [data_length]; exact Nat.le_refl _), List.take_drop, List.drop_drop]
theorem bt_46 (s : ByteArray) (i : Nat) : bt s (i : Int) = 46 ↔ s.data.toList[i]? = some 46 := by
  rw [bt_nat]
  by_cases h : i < s.data.toList.length
  · rw [List.getD_eq_getElem?_getD, List.getElem?_eq_getElem h]
    simp only [Option.getD_some, Option.some.injEq]
    constructor
    · intro e
      have : s.data.toList[i].toNat = 46 := by omega
      exact UInt8.toNat_inj.1 this
    · intro e; rw [e]; rfl
  · rw [List.getD_eq_getElem?_getD, List.getElem?_eq_none (by omega)]; simp
def cutFrom (s : ByteArray) (a i : Nat) : Nat → List ByteArray
  | 0 => [s.extract a s.size]
  | d + 1 => if bt s (i : Int) = 46 then s.extract a i :: cutFrom s (i + 1) (i + 1) d else cutFrom s a (i + 1) d
theorem cut_split (s : ByteArray) (d : Nat) : ∀ a i : Nat, a ≤ i → i + d = s.size → (∀ j, a ≤ j → j < i → s.data.toList[j]? ≠ some 46) → cutFrom s a i d = Lib.splitB ⟨#[46]⟩ 0 (Lib.countB (s.extract a s.size) ⟨#[46]⟩) (s.extract a s.size) := by
  have at_ : ∀ a j : Nat, (s.extract a s.size).data.toList[j]? = s.data.toList[a + j]? := fun a j => by
    rw [ex_list, List.take_of_length_le (by rw [data_length]; omega), List.getElem?_drop]
  induction d with
  | zero =>
    intro a i ha hi hno
    have hm := one_miss (s.extract a s.size) (fun j => by
      rw [at_]
      by_cases q : a + j < i
      · exact hno _ (by omega) q
      · rw [List.getElem?_eq_none (by rw [data_length]; omega)]; simp)
    rw [Lib.splitB_miss _ _ _ _ hm]; rfl
  | succ d ih =>
    intro a i ha hi hno
    unfold cutFrom
    by_cases hb : bt s (i : Int) = 46
    · rw [if_pos hb]
      have hh := one_hit (s.extract a s.size) (i - a) (by rw [at_, show a + (i - a) = i by omega]; exact (bt_46 s i).1 hb) (fun j hj => by rw [at_]; exact hno _ (by omega) (by omega))
      have hsz : (s.extract a s.size).size = s.size - a := by simp
      have hr : (s.extract a s.size).extract (i - a + (⟨#[46]⟩ : ByteArray).size) (s.extract a s.size).size = s.extract (i + 1) s.size := by
        rw [hsz, show (⟨#[46]⟩ : ByteArray).size = 1 from rfl, ex_ex s a _ _ (by omega), show a + (i - a + 1) = i + 1 by omega, show a + (s.size - a) = s.size by omega]
      rw [Lib.countB_hit _ _ (i - a) (by decide) hh, hr, Nat.add_comm 1, Lib.splitB_hit _ _ _ _ (i - a) hh, hr, ← ih (i + 1) (i + 1) (Nat.le_refl _) (by omega) (fun j h1 h2 => by omega)]
      rw [ex_ex s a 0 (i - a + 0) (by omega), show a + 0 = a from rfl, show a + (i - a + 0) = i by omega]
    · rw [if_neg hb]
      exact ih a (i + 1) (by omega) (by omega) (fun j h1 h2 => by
        by_cases q : j = i
        · rw [q]; exact fun e => hb ((bt_46 s i).2 e)
        · exact hno j h1 (by omega))
theorem cut_pieces (s : ByteArray) : cutFrom s 0 0 s.size = pieces s := by
  have h := cut_split s s.size 0 0 (Nat.le_refl _) (by omega) (fun j _ h => by omega)
  rw [h]
  have e : s.extract 0 s.size = s := by
    apply toList_inj
    rw [toList_data, toList_data, ex_list, List.drop_zero, List.take_of_length_le (by rw [data_length]; omega)]
  rw [e]; rfl
theorem cut_l0 (s : ByteArray) (hs : s.size ≤ 1048576) (d : Nat) : ∀ (a i : Nat) (x : List ByteArray), a ≤ i → i + d = s.size → x.length ≤ i → Ev (fun k => spec_l00Cut.l0 k s 46 x (a : Int) (i : Int)) (x ++ cutFrom s a i d) := by
  induction d with
  | zero =>
    intro a i x ha hi hx
    refine Ev.step (f := fun _ => some _) (fun k => ?_) (Ev.now _)
    simp only [spec_l00Cut.l0, Int.toNat_natCast]; rw [if_neg (by omega), if_pos (by omega), if_pos (by omega), if_pos (by omega)]; rfl
  | succ d ih =>
    intro a i x ha hi hx
    have hw : wrap64 ((i : Int) + 1) = ((i + 1 : Nat) : Int) := by rw [wrap64_id (by omega) (by omega)]; omega
    unfold cutFrom
    by_cases hb : bt s (i : Int) = 46
    · rw [if_pos hb]
      have h := ih (i + 1) (i + 1) (x ++ [s.extract a i]) (Nat.le_refl _) (by omega) (by simp; omega)
      rw [List.append_assoc] at h
      refine Ev.step (fun k => ?_) h
      simp only [spec_l00Cut.l0, hw, Int.toNat_natCast]; rw [if_pos (by omega), if_pos (by omega), if_pos hb, if_pos (by omega), if_pos (by omega), if_pos (by omega), if_pos (by omega)]
    · rw [if_neg hb]
      refine Ev.step (fun k => ?_) (ih a (i + 1) x (by omega) (by omega) (by omega))
      simp only [spec_l00Cut.l0, hw]; rw [if_pos (by omega), if_pos (by omega), if_neg hb]
theorem cut_ev (s : ByteArray) (hs : s.size ≤ 1048576) : Ev (fun k => spec_l00Cut.f k s 46) (pieces s) := by
  have h := cut_l0 s hs s.size 0 0 [] (Nat.le_refl _) (by omega) (by simp)
  rw [List.nil_append, cut_pieces] at h
  exact Ev.congr (fun k => by unfold spec_l00Cut.f; rfl) h
theorem cut_size (s : ByteArray) (d : Nat) : ∀ a i : Nat, ∀ x ∈ cutFrom s a i d, x.size ≤ s.size := by
  induction d with
  | zero => intro a i x hx; simp only [cutFrom, List.mem_singleton] at hx; subst hx; simp
  | succ d ih =>
    intro a i x hx
    unfold cutFrom at hx
    by_cases hb : bt s (i : Int) = 46
    · rw [if_pos hb] at hx
      rcases List.mem_cons.1 hx with e | e
      · subst e; simp; omega
      · exact ih _ _ x e
    · rw [if_neg hb] at hx; exact ih _ _ x hx
theorem piece_size (s x : ByteArray) (h : x ∈ pieces s) : x.size ≤ s.size := cut_size s s.size 0 0 x (by rw [cut_pieces]; exact h)
/-! ### a piece, byte by byte -/
def letv (b : Int) : Bool := (impl_isLetter.f b).getD false
def digv (b : Int) : Bool := (impl_isDigit.f b).getD false
theorem let_i (b : Int) : impl_isLetter.f b = some (letv b) := by
  unfold letv impl_isLetter.f
  repeat' split
  all_goals rfl
theorem let_s (b : Int) : spec_l00Letter.f b = some (letv b) := let_i b
theorem dig_i (b : Int) : impl_isDigit.f b = some (digv b) := by
  unfold digv impl_isDigit.f
  split <;> rfl
theorem dig_s (b : Int) : spec_l00Digit.f b = some (digv b) := dig_i b
def okb (b : Int) : Bool := letv b || (digv b || decide (b = 45))
def okFrom (s : ByteArray) (i : Nat) : Nat → Bool
  | 0 => true
  | d + 1 => okb (bt s (i : Int)) && okFrom s (i + 1) d
def sz20 (s : ByteArray) : Bool := decide (1 ≤ (s.size : Int) ∧ (s.size : Int) ≤ 20)
def pok (s : ByteArray) : Bool := okFrom s 0 s.size && sz20 s
theorem in_i (s : ByteArray) : impl_within.f (s.size : Int) 1 20 = some (sz20 s) := by
  unfold impl_within.f sz20
  by_cases h : (s.size : Int) ≥ 1
  · rw [if_pos h]; congr 1; apply decide_eq_decide.2; exact ⟨fun q => ⟨h, q⟩, fun q => q.2⟩
  · rw [if_neg h]; congr 1; symm; apply decide_eq_false; intro q; exact h q.1
theorem in_s (s : ByteArray) : spec_l01In.f (s.size : Int) 1 20 = some (sz20 s) := in_i s
theorem part_l0 (s : ByteArray) (hs : s.size ≤ 1048576) (d : Nat) : ∀ i : Nat, i + d = s.size → Ev (fun k => impl_partOK.l0 k s (s.size : Int) (i : Int)) (okFrom s i d && sz20 s) := by
  induction d with
  | zero =>
    intro i hi
    refine Ev.step (f := fun _ => some _) (fun k => ?_) (Ev.now _)
    simp only [impl_partOK.l0, in_i, Option.bind_some, okFrom, Bool.true_and]; rw [if_neg (by omega)]
  | succ d ih =>
    intro i hi
    have hw : wrap64 ((i : Int) + 1) = ((i + 1 : Nat) : Int) := by rw [wrap64_id (by omega) (by omega)]; omega
    have h := ih (i + 1) (by omega)
    unfold okFrom okb
    cases h1 : letv (bt s (i : Int)) with
    | true =>
      rw [Bool.true_or, Bool.true_and]
      refine Ev.step (fun k => ?_) h
      simp only [impl_partOK.l0, let_i, dig_i, Option.bind_some, hw, h1]; rw [if_pos (by omega), if_pos (by omega), if_pos (by omega), if_pos trivial]
    | false =>
      rw [Bool.false_or]
      cases h2 : digv (bt s (i : Int)) with
      | true =>
        rw [Bool.true_or, Bool.true_and]
        refine Ev.step (fun k => ?_) h
        simp only [impl_partOK.l0, let_i, dig_i, Option.bind_some, hw, h1, h2]; rw [if_pos (by omega), if_pos (by omega), if_pos (by omega), if_neg (by simp), if_pos trivial]
      | false =>
        rw [Bool.false_or]
        by_cases h3 : bt s (i : Int) = 45
        · rw [decide_eq_true h3, Bool.true_and]
          refine Ev.step (fun k => ?_) h
          simp only [impl_partOK.l0, let_i, dig_i, Option.bind_some, hw, h1, h2]; rw [if_pos (by omega), if_pos (by omega), if_pos (by omega), if_neg (by simp), if_neg (by simp), if_pos h3]
        · rw [decide_eq_false h3, Bool.false_and, Bool.false_and]
          refine Ev.step (f := fun _ => some false) (fun k => ?_) (Ev.now _)
          simp only [impl_partOK.l0, let_i, dig_i, Option.bind_some, hw, h1, h2]; rw [if_pos (by omega), if_pos (by omega), if_pos (by omega), if_neg (by simp), if_neg (by simp), if_neg h3]
theorem part_ev (s : ByteArray) (hs : s.size ≤ 1048576) : Ev (fun k => impl_partOK.f k s) (pok s) :=
  Ev.congr (fun k => by unfold impl_partOK.f; rfl) (part_l0 s hs s.size 0 (by omega))
theorem rdP (L : List ByteArray) (q : Nat) (h : q < L.length) : rdOf ByteArray.empty L (q : Int) = L[q] := by
  simp [rdOf, List.getD_eq_getElem?_getD, h]
theorem sp_l1 (L : List ByteArray) (hL : L.length ≤ 1048577) (q : Nat) (hq : q < L.length) (hs : (L[q]).size ≤ 1048576) (r : Bool) (h : Ev (fun k => spec_DnsNameOK.l0 k L ((q + 1 : Nat) : Int)) r) (d : Nat) : ∀ j : Nat, j + d = (L[q]).size → Ev (fun k => spec_DnsNameOK.l1 k L (q : Int) (j : Int)) (if okFrom (L[q]) j d = true then r else false) := by
  have hw : wrap64 ((q : Int) + 1) = ((q + 1 : Nat) : Int) := by rw [wrap64_id (by omega) (by omega)]; omega
  induction d with
  | zero =>
    intro j hj
    rw [show okFrom (L[q]) j 0 = true from rfl, if_pos rfl]
    refine Ev.step (fun k => ?_) h
    simp only [spec_DnsNameOK.l1, rdP L q hq, hw]; rw [if_pos (by omega), if_pos (by omega), if_neg (by omega)]
  | succ d ih =>
    intro j hj
    have hw2 : wrap64 ((j : Int) + 1) = ((j + 1 : Nat) : Int) := by rw [wrap64_id (by omega) (by omega)]; omega
    have h4 := ih (j + 1) (by omega)
    unfold okFrom okb
    cases h1 : letv (bt (L[q]) (j : Int)) with
    | true =>
      rw [Bool.true_or, Bool.true_and]
      refine Ev.step (fun k => ?_) h4
      simp only [spec_DnsNameOK.l1, rdP L q hq, let_s, dig_s, Option.bind_some, hw2, h1]; rw [if_pos (by omega), if_pos (by omega), if_pos (by omega), if_pos (by omega), if_pos trivial]
    | false =>
      rw [Bool.false_or]
      cases h2 : digv (bt (L[q]) (j : Int)) with
      | true =>
        rw [Bool.true_or, Bool.true_and]
        refine Ev.step (fun k => ?_) h4
        simp only [spec_DnsNameOK.l1, rdP L q hq, let_s, dig_s, Option.bind_some, hw2, h1, h2]; rw [if_pos (by omega), if_pos (by omega), if_pos (by omega), if_pos (by omega), if_neg (by simp), if_pos trivial]
      | false =>
        rw [Bool.false_or]
        by_cases h3 : bt (L[q]) (j : Int) = 45
        · rw [decide_eq_true h3, Bool.true_and]
          refine Ev.step (fun k => ?_) h4
          simp only [spec_DnsNameOK.l1, rdP L q hq, let_s, dig_s, Option.bind_some, hw2, h1, h2]; rw [if_pos (by omega), if_pos (by omega), if_pos (by omega), if_pos (by omega), if_neg (by simp), if_neg (by simp), if_pos h3]
        · rw [decide_eq_false h3, Bool.false_and, if_neg (by simp)]
          refine Ev.step (f := fun _ => some false) (fun k => ?_) (Ev.now _)
          simp only [spec_DnsNameOK.l1, rdP L q hq, let_s, dig_s, Option.bind_some, hw2, h1, h2]; rw [if_pos (by omega), if_pos (by omega), if_pos (by omega), if_pos (by omega), if_neg (by simp), if_neg (by simp), if_neg h3]
theorem sp_l0 (L : List ByteArray) (hL : L.length ≤ 1048577) (hs : ∀ x ∈ L, x.size ≤ 1048576) (d : Nat) : ∀ q : Nat, q + d = L.length → Ev (fun k => spec_DnsNameOK.l0 k L (q : Int)) ((L.drop q).all pok) := by
  induction d with
  | zero =>
    intro q hq
    rw [List.drop_eq_nil_of_le (by omega)]
    refine Ev.step (f := fun _ => some true) (fun k => ?_) (Ev.now _)
    simp only [spec_DnsNameOK.l0]; rw [if_neg (by omega)]
  | succ d ih =>
    intro q hq
    have hq' : q < L.length := by omega
    have h := sp_l1 L hL q hq' (hs _ (List.getElem_mem hq')) _ (ih (q + 1) (by omega)) (L[q]).size 0 (by omega)
    rw [List.drop_eq_getElem_cons hq', List.all_cons]
    unfold pok at h ⊢
    cases hz : sz20 L[q] with
    | true =>
      rw [Bool.and_true]
      have e : (if okFrom L[q] 0 (L[q]).size = true then ((L.drop (q + 1)).all fun s => okFrom s 0 s.size && sz20 s) else false) = (okFrom L[q] 0 (L[q]).size && ((L.drop (q + 1)).all fun s => okFrom s 0 s.size && sz20 s)) := by
        cases okFrom L[q] 0 (L[q]).size <;> rfl
      refine Ev.step (fun k => ?_) (e ▸ h)
      simp only [spec_DnsNameOK.l0, rdP L q hq', in_s, Option.bind_some, hz]; rw [if_pos (by omega), if_pos (by omega), if_pos trivial]; rfl
    | false =>
      rw [Bool.and_false, Bool.false_and]
      refine Ev.step (f := fun _ => some false) (fun k => ?_) (Ev.now _)
      simp only [spec_DnsNameOK.l0, rdP L q hq', in_s, Option.bind_some, hz]; rw [if_pos (by omega), if_pos (by omega), if_neg (by simp)]
theorem pieces_length (s : ByteArray) : (pieces s).length = Lib.countB s ⟨#[46]⟩ + 1 := Lib.splitB_all ⟨#[46]⟩ (by decide) 0 _ s rfl
theorem spec_ev (s : ByteArray) (hs : s.size ≤ 1048576) : Ev (fun k => spec_DnsNameOK.f k s) (dnsv pok s) := by
  have hl : (pieces s).length ≤ 1048577 := by
    have := Lib.countB_le ⟨#[46]⟩ (by decide) s.size s (Nat.le_refl _)
    rw [pieces_length]; omega
  unfold dnsv
  by_cases h1 : (s.size : Int) > 65536
  · rw [if_pos (by omega)]
    exact Ev.congr (f := fun _ => some false) (fun k => by unfold spec_DnsNameOK.f; rw [if_pos h1]) (Ev.now _)
  · refine Ev.congr (fun k => by unfold spec_DnsNameOK.f; rw [if_neg h1]) (Ev.bind (cut_ev s hs) ?_)
    by_cases h2 : (s.size : Int) > 80
    · rw [if_pos h2]
      refine Ev.congr (fun k => by rw [if_pos h2]) (Ev.step (f := fun _ => some false) (fun k => ?_) (Ev.now _))
      simp only [spec_DnsNameOK.j0]; rw [if_pos trivial]
    · rw [if_neg h2]
      refine Ev.congr (fun k => by rw [if_neg h2]) ?_
      by_cases h3 : (pieces s).length ≤ 8
      · rw [decide_eq_true h3, Bool.true_and, decide_eq_false (by omega)]
        have h := sp_l0 (pieces s) hl (fun x hx => Nat.le_trans (piece_size s x hx) hs) (pieces s).length 0 (by omega)
        rw [List.drop_zero] at h
        refine Ev.step (fun k => ?_) h
        simp only [spec_DnsNameOK.j0]; rw [if_neg (by simp)]; rfl
      · rw [decide_eq_false h3, Bool.false_and, decide_eq_true (by omega)]
        refine Ev.step (f := fun _ => some false) (fun k => ?_) (Ev.now _)
        simp only [spec_DnsNameOK.j0]; rw [if_pos trivial]
theorem walk (a0 : ByteArray) (w : World) (hm : ∃ m, w.cell? ⟨0, 0, none⟩ = some (.int .i64 m)) :
    Calls Tryd.prog 8 #[.string a0] w fun e w' => e = .returned (.bool true) ∧ Below w.heap.size w w' := by
  by_cases hs : (a0.size : Int) ≤ 1048576
  · obtain ⟨m, hm⟩ := hm
    obtain ⟨K, hK⟩ := spec_ev a0 (by omega)
    exact law8 pok a0 m K w hm hs (fun x hx => by
      obtain ⟨J, hJ⟩ := part_ev x (Nat.le_trans (piece_size a0 x hx) (by omega))
      exact ⟨J, hJ J (Nat.le_refl _)⟩) (pieces_length a0) (hK K (Nat.le_refl _))
  · exact law8_big a0 w hs
end Go.Proofs.YtpnbhgoblgbdkaaDoor.Pure
