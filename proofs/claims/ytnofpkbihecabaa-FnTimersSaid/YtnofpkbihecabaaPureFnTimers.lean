/- FnTimers: a timer put stands among the drawn ones, is due at its own time and not before, moves when it is put anew, and is gone when it is dropped. -/
import Derived.Test.YtnofpkbihecabaaPTfx10
import Derived.Test.YtnofpkbihecabaaBase
set_option linter.unusedSimpArgs false
set_option linter.unusedVariables false
namespace Go.Proofs.Ytnofpkbihecabaa.Pure
open Go.RowKit Go.Proofs.Ytnofpkbihecabaa.PTf Go.Proofs.YtnofpkbihecabaaW.PrintWords Go.Proofs.YtnofpkbihecabaaW.PrintLast Go.Proofs.YtnofpkbihecabaaW.PrintMore Base

/-! ### rows of bytes and the strings of them -/
def Bytes (l : List Int) : Prop := ∀ x ∈ l, 0 ≤ x ∧ x < 256
theorem bytes_wf {l : List Int} (h : ∀ x ∈ l, (Lit.int .u8 x).wf = true) : Bytes l := fun x hx => wf_u8 (h x hx)
theorem bytes_take {l : List Int} (h : Bytes l) (n : Nat) : Bytes (l.take n) := fun x hx => h x (List.mem_of_mem_take hx)
theorem bytes_drop {l : List Int} (h : Bytes l) (n : Nat) : Bytes (l.drop n) := fun x hx => h x (List.mem_of_mem_drop hx)
theorem rd_nat (l : List Int) (i : Nat) : rd l (i : Int) = l.getD i 0 := by simp [rd]
theorem rd_at (l : List Int) (i : Nat) (h : i < l.length) : rd l (i : Int) = l[i] := by
  rw [rd_nat, List.getD_eq_getElem?_getD, List.getElem?_eq_getElem h]; rfl
theorem rd_byte {l : List Int} (h : Bytes l) (i : Nat) : 0 ≤ rd l (i : Int) ∧ rd l (i : Int) < 256 := by
  by_cases hi : i < l.length
  · rw [rd_at l i hi]; exact h _ (List.getElem_mem hi)
  · rw [rd_nat, List.getD_eq_getElem?_getD, List.getElem?_eq_none (by omega)]; simp
theorem str_bt {l : List Int} (h : Bytes l) (i : Nat) : bt (strOfNums l) (i : Int) = rd l (i : Int) := by
  rw [bt_nat, strOfNums_data, rd_nat, List.getD_eq_getElem?_getD, List.getD_eq_getElem?_getD, List.getElem?_map]
  by_cases hi : i < l.length
  · rw [List.getElem?_eq_getElem hi]
    simp only [Option.map_some, Option.getD_some]
    have := h _ (List.getElem_mem hi)
    rw [UInt8.toNat_ofNat']; omega
  · rw [List.getElem?_eq_none (by omega)]; rfl
theorem str_cut (l : List Int) (a b : Nat) : (strOfNums l).extract a b = strOfNums ((l.take b).drop a) := by
  apply toList_inj
  rw [toList_data, toList_data, strOfNums_data, ByteArray.data_extract, Array.toList_extract, List.extract_eq_take_drop, strOfNums_data, List.map_drop, List.map_take, List.drop_take]
theorem str_size (l : List Int) : (strOfNums l).size = l.length := strOfNums_size l

/-! ### the number of a row of bytes, high byte first -/
def num (l : List Int) : Int := l.foldl (fun n c => n * 256 + c) 0
theorem num_snoc (l : List Int) (c : Int) : num (l ++ [c]) = num l * 256 + c := by simp [num]
theorem num_take (l : List Int) (i : Nat) (h : i < l.length) : num (l.take (i + 1)) = num (l.take i) * 256 + l[i] := by
  rw [List.take_succ_eq_append_getElem h, num_snoc]
theorem num_0 {l : List Int} (h : Bytes l) : ∀ i, i ≤ l.length → 0 ≤ num (l.take i) ∧ num (l.take i) < 256 ^ i := by
  intro i
  induction i with
  | zero => intro _; rw [List.take_zero]; exact ⟨by decide, by decide⟩
  | succ i ih =>
    intro hi
    have h1 := ih (by omega)
    have h2 := h _ (List.getElem_mem (show i < l.length by omega))
    rw [num_take l i (by omega), Int.pow_succ]
    omega
theorem num_6 {l : List Int} (h : Bytes l) (i : Nat) (hi : i ≤ l.length) (h7 : i ≤ 6) : 0 ≤ num (l.take i) ∧ num (l.take i) < 281474976710656 := by
  have h1 := num_0 h i hi
  rcases (show i = 0 ∨ i = 1 ∨ i = 2 ∨ i = 3 ∨ i = 4 ∨ i = 5 ∨ i = 6 by omega) with e | e | e | e | e | e | e <;> rw [e] at h1 ⊢ <;> omega
theorem num_lt {l : List Int} (h : Bytes l) (n : Nat) (hn : l.length = n) : 0 ≤ num l ∧ num l < 256 ^ n := by
  have := num_0 h l.length (Nat.le_refl _)
  rw [List.take_length] at this; rw [hn] at this; exact this

/-! ### draws out of a code -/
theorem src_byte {l : List Int} (h : Bytes l) (at_ sd : Int) (h0 : 0 ≤ at_ ∧ at_ ≤ 1000000000) (h1 : 0 ≤ sd ∧ sd < 2147483648) : ∃ r q : Int, spec_l00Src_byte.f l at_ sd = some (r, at_ + 1, q) ∧ (0 ≤ r ∧ r < 256) ∧ (0 ≤ q ∧ q < 2147483648) := by
  obtain ⟨i, rfl⟩ : ∃ i : Nat, at_ = i := ⟨at_.toNat, by omega⟩
  have hb := rd_byte h i
  unfold spec_l00Src_byte.f
  rw [if_pos ⟨h0, h1, by omega, by omega⟩]
  split
  · exact ⟨_, _, rfl, hb, by omega⟩
  · split
    · exact ⟨_, _, rfl, by omega, h1⟩
    · exact ⟨_, _, rfl, by omega, by omega⟩
theorem src_next {l : List Int} (h : Bytes l) (at_ sd n : Int) (h0 : 0 ≤ at_ ∧ at_ ≤ 1000000000) (h1 : 0 ≤ sd ∧ sd < 2147483648) (hn : 1 ≤ n ∧ n ≤ 256) : ∃ r a q : Int, spec_l00Src_next.f l at_ sd n = some (r, a, q) ∧ (0 ≤ r ∧ r < n) ∧ (at_ ≤ a ∧ a ≤ at_ + 1) ∧ (0 ≤ q ∧ q < 2147483648) := by
  unfold spec_l00Src_next.f
  by_cases h2 : n ≤ 1
  · rw [if_pos h2]; exact ⟨_, _, _, rfl, by omega, by omega, h1⟩
  · obtain ⟨r, q, hr, hr2, hq⟩ := src_byte h at_ sd h0 h1
    rw [if_neg h2, if_pos hn.2, hr, Option.bind_some, if_neg (by omega)]
    refine ⟨_, at_ + 1, q, rfl, ?_, by omega, hq⟩
    rw [Int.tmod_eq_emod_of_nonneg hr2.1]
    exact ⟨Int.emod_nonneg _ (by omega), Int.emod_lt_of_pos _ (by omega)⟩
/-! ### a choice out of bytes -/
theorem at_ev {l : List Int} (h : Bytes l) (hl : l.length ≤ 1048576) (i n : Nat) (hi : i ≤ 1000) (hn : 1 ≤ n ∧ n ≤ 1000000) : ∃ r : Nat, laws_at.f l (i : Int) (n : Int) = some (r : Int) ∧ r < n := by
  unfold laws_at.f
  by_cases h2 : (n : Int) ≤ 1
  · exact ⟨0, by rw [if_pos h2]; rfl, by omega⟩
  · rw [if_neg h2]
    by_cases h3 : (l.length : Int) = 0
    · rw [if_pos h3, if_neg (by omega), wrap64_id (by omega) (by omega), Int.tmod_eq_emod_of_nonneg (by omega)]
      exact ⟨(i * 7) % n, by rw [Int.natCast_emod, Int.natCast_mul]; rfl, Nat.mod_lt _ (by omega)⟩
    · have e1 : Int.tmod (i : Int) (l.length : Int) = ((i % l.length : Nat) : Int) := by rw [Int.tmod_eq_emod_of_nonneg (by omega), Int.natCast_emod]
      have e2 : Int.tmod (wrap64 ((i : Int) + 1)) (l.length : Int) = (((i + 1) % l.length : Nat) : Int) := by rw [wrap64_id (by omega) (by omega), Int.tmod_eq_emod_of_nonneg (by omega), Int.natCast_emod]; rfl
      obtain ⟨w, hw⟩ : ∃ w, w = i / l.length := ⟨_, rfl⟩
      have e3 : Int.tdiv (i : Int) (l.length : Int) = (w : Int) := by rw [hw, Int.tdiv_eq_ediv_of_nonneg (by omega), Int.natCast_ediv]
      obtain ⟨x1, hx1⟩ : ∃ x, x = i % l.length := ⟨_, rfl⟩
      obtain ⟨x2, hx2⟩ : ∃ x, x = (i + 1) % l.length := ⟨_, rfl⟩
      have l1 : i % l.length < l.length := Nat.mod_lt _ (by omega)
      have l2 : (i + 1) % l.length < l.length := Nat.mod_lt _ (by omega)
      have b1 := rd_byte h (i % l.length)
      have b2 := rd_byte h ((i + 1) % l.length)
      have d1 : w ≤ i := by rw [hw]; exact Nat.div_le_self _ _
      rw [← hx1] at e1 l1 b1
      rw [← hx2] at e2 l2 b2
      rw [if_neg h3, e1, e2, e3, if_pos (by omega), if_pos (by omega), if_pos (by omega), if_pos (by omega), if_neg (by omega)]
      rw [wrap64_id (x := rd l (x1 : Int)) (by omega) (by omega), wrap64_id (x := rd l (x1 : Int) * 31) (by omega) (by omega), wrap64_id (x := rd l (x2 : Int)) (by omega) (by omega), wrap64_id (x := rd l (x1 : Int) * 31 + rd l (x2 : Int)) (by omega) (by omega), wrap64_id (x := (w : Int)) (by omega) (by omega), wrap64_id (by omega) (by omega)]
      obtain ⟨m, hm⟩ : ∃ m : Nat, rd l (x1 : Int) * 31 + rd l (x2 : Int) + (w : Int) = m := ⟨(rd l (x1 : Int) * 31 + rd l (x2 : Int) + (w : Int)).toNat, by omega⟩
      rw [hm, Int.tmod_eq_emod_of_nonneg (by omega)]
      exact ⟨m % n, by rw [Int.natCast_emod], Nat.mod_lt _ (by omega)⟩
/-! ### rows of timers -/
theorem rdT (l : List S27) (i : Nat) (h : i < l.length) : rd_T27 l (i : Int) = l[i] := by
  simp [rd_T27, List.getD_eq_getElem?_getD, h]
/-! ### are they timers -/
def okT (x : S27) : Bool := decide (0 ≤ x.f0 ∧ x.f0 ≤ 1000000 ∧ 0 ≤ x.f1 ∧ x.f1 ≤ 1000000)
def lessT (x y : S27) : Prop := x.f0 < y.f0 ∨ x.f0 = y.f0 ∧ x.f1 < y.f1
instance (x y : S27) : Decidable (lessT x y) := by unfold lessT; infer_instance
def good (L : List S27) (i : Nat) : Prop := okT (L.getD i z27) = true ∧ (0 < i → lessT (L.getD (i - 1) z27) (L.getD i z27)) ∧ ∀ j, j < i → (L.getD j z27).f1 ≠ (L.getD i z27).f1
open Classical in
noncomputable def chk (L : List S27) : Nat → Nat → Bool
  | 0, _ => decide (L.length ≤ 20)
  | d + 1, i => if good L i then chk L d (i + 1) else false
theorem chk_good (L : List S27) (d : Nat) : ∀ i, chk L d i = true → (∀ j, i ≤ j → j < i + d → good L j) ∧ L.length ≤ 20 := by
  induction d with
  | zero => intro i h; simp [chk] at h; exact ⟨fun j h1 h2 => by omega, h⟩
  | succ d ih =>
    intro i h
    unfold chk at h
    by_cases hg : good L i
    · rw [if_pos hg] at h
      obtain ⟨h1, h2⟩ := ih (i + 1) h
      refine ⟨fun j hj1 hj2 => ?_, h2⟩
      by_cases e : j = i
      · rw [e]; exact hg
      · exact h1 j (by omega) (by omega)
    · rw [if_neg hg] at h; cases h
theorem rdG (L : List S27) (i : Nat) : rd_T27 L (i : Int) = L.getD i z27 := by simp [rd_T27]
theorem within_ok (a : Int) : impl_within.f a 0 1000000 = some (decide (0 ≤ a ∧ a ≤ 1000000)) := by
  unfold impl_within.f
  by_cases h : a ≥ 0
  · rw [if_pos h]; simp [h]
  · rw [if_neg h]; simp; omega
theorem timerOK_eq (x : S27) : impl_timerOK.f x.f0 x.f1 = some (okT x) := by
  unfold impl_timerOK.f
  rw [within_ok, within_ok, Option.bind_some, Option.bind_some]
  by_cases h : 0 ≤ x.f0 ∧ x.f0 ≤ 1000000
  · rw [decide_eq_true h, if_pos rfl]; unfold okT; congr 1; apply decide_eq_decide.2; constructor
    · intro q; exact ⟨h.1, h.2, q.1, q.2⟩
    · intro q; exact ⟨q.2.2.1, q.2.2.2⟩
  · rw [decide_eq_false h, if_neg (by simp)]; unfold okT; congr 1; symm; apply decide_eq_false; intro q; exact h ⟨q.1, q.2.1⟩
theorem or_ev (p q : Int) : Ev (fun k => cmp_Or_int.f k [p, q]) (if p = 0 then q else p) := by
  refine ⟨3, fun k hk => ?_⟩
  obtain ⟨m, rfl⟩ : ∃ m, k = m + 3 := ⟨k - 3, by omega⟩
  have r0 : rd [p, q] 0 = p := rfl
  have r1 : rd [p, q] 1 = q := rfl
  have w1 : wrap64 (0 + 1) = 1 := by rw [wrap64_id (by omega) (by omega)]; rfl
  have w2 : wrap64 (1 + 1) = 2 := by rw [wrap64_id (by omega) (by omega)]; rfl
  unfold cmp_Or_int.f
  simp only [cmp_Or_int.l0, List.length_cons, List.length_nil, r0, r1, w1, w2]
  by_cases hp : p = 0
  · rw [if_pos hp]
    by_cases hq : q = 0
    · simp [hp, hq, cmp_Or_int.l0, r0, r1, w1, w2]
    · simp [hp, hq, cmp_Or_int.l0, r0, r1, w1, w2]
  · rw [if_neg hp]; simp [hp]
def cmpv (a b : Int) : Int := if a < b then -1 else if a > b then 1 else 0
theorem cmp_eq (a b : Int) : cmp_Compare_int.f a b = some (cmpv a b) := by
  unfold cmp_Compare_int.f cmp_isNaN_int.f cmpv
  simp only [Option.bind_some, bne_self_eq_false]
  rw [if_neg (by simp), if_neg (by simp)]
  split
  · rfl
  · split <;> rfl
theorem order_ev (x y : S27) : ∃ v, Ev (fun k => impl_timerOrder.f k x.f0 x.f1 y.f0 y.f1) v ∧ (v ≥ 0 ↔ ¬ lessT x y) := by
  refine ⟨if cmpv x.f0 y.f0 = 0 then cmpv x.f1 y.f1 else cmpv x.f0 y.f0, ?_, ?_⟩
  · refine Ev.congr (fun k => ?_) (Ev.bind (or_ev (cmpv x.f0 y.f0) (cmpv x.f1 y.f1)) (Ev.now _))
    unfold impl_timerOrder.f
    rw [cmp_eq, cmp_eq, Option.bind_some, Option.bind_some]
  · unfold cmpv lessT
    by_cases h1 : x.f0 < y.f0
    · simp [h1]
    · by_cases h2 : x.f0 > y.f0
      · simp [h1, h2]; omega
      · have e : x.f0 = y.f0 := by omega
        by_cases h3 : x.f1 < y.f1
        · simp [e, h3]
        · by_cases h4 : x.f1 > y.f1
          · simp [e, h3, h4]
          · simp [e, h3, h4]
theorem idx_nn (id : Int) (l : List S27) : ∀ i : Int, 0 ≤ i → (idx id l i ≥ 0 ↔ ∃ x ∈ l, x.f1 = id) := by
  induction l with
  | nil => intro i _; simp [idx]
  | cons x xs ih =>
    intro i hi
    simp only [idx]
    by_cases h : x.f1 = id
    · rw [if_pos h]; simp [h]; exact hi
    · rw [if_neg h, ih (i + 1) (by omega)]; simp [h]
theorem new_iff (L : List S27) (i : Nat) (hi : i ≤ L.length) (id : Int) : (∃ x ∈ L.take i, x.f1 = id) ↔ ¬ ∀ j, j < i → (L.getD j z27).f1 ≠ id := by
  constructor
  · rintro ⟨x, hx, e⟩ h
    obtain ⟨j, hj, rfl⟩ := List.mem_iff_getElem.1 hx
    simp at hj
    refine h j (by omega) ?_
    rw [List.getElem_take] at e
    simpa [List.getD_eq_getElem?_getD, show j < L.length by omega] using e
  · intro h
    apply Classical.byContradiction
    intro hn
    apply h
    intro j hj e
    apply hn
    have hjl : j < L.length := by omega
    refine ⟨L[j], ?_, ?_⟩
    · rw [List.mem_iff_getElem]; exact ⟨j, by simp; omega, by rw [List.getElem_take]⟩
    · simpa [List.getD_eq_getElem?_getD, hjl] using e
theorem chk_bad {L : List S27} {d i : Nat} (h : ¬ good L i) : chk L (d + 1) i = false := by unfold chk; rw [if_neg h]
theorem chk_go {L : List S27} {d i : Nat} (h : good L i) : chk L (d + 1) i = chk L d (i + 1) := by conv => lhs; unfold chk; rw [if_pos h]
theorem fault_l0 (L : List S27) (hL : L.length ≤ 4096) (d : Nat) : ∀ i : Nat, i + d = L.length → Ev (fun k => impl_timersFault.l0 k L L (L.length : Int) (i : Int)) (if chk L d i = true then 0 else 1) := by
  induction d with
  | zero =>
    intro i hi
    rw [show chk L 0 i = decide (L.length ≤ 20) from rfl]
    refine Ev.step (f := fun _ => some _) (fun k => ?_) (Ev.now _)
    simp only [impl_timersFault.l0]; rw [if_neg (by omega)]
    by_cases h : L.length ≤ 20
    · rw [if_neg (by omega), decide_eq_true h, if_pos rfl]
    · rw [if_pos (by omega), decide_eq_false h, if_neg (by simp)]
  | succ d ih =>
    intro i hi
    have hw : wrap64 ((i : Int) + 1) = ((i + 1 : Nat) : Int) := by rw [wrap64_id (by omega) (by omega)]; omega
    have h := ih (i + 1) (by omega)
    have hn := (idx_nn (L.getD i z27).f1 (L.take i) 0 (Int.le_refl 0)).trans (new_iff L i (by omega) (L.getD i z27).f1)
    cases hok : okT (L.getD i z27) with
    | false =>
      rw [chk_bad (fun g => by rw [g.1] at hok; cases hok)]
      refine Ev.step (f := fun _ => some _) (fun k => ?_) (Ev.now _)
      simp only [impl_timersFault.l0, hw, rdG, timerOK_eq, hok, Option.bind_some]
      rw [if_pos (by omega), if_pos (by omega), if_pos (by omega), if_neg (by simp)]; rfl
    | true =>
      by_cases h0 : 0 < i
      · have hp : wrap64 ((i : Int) - 1) = ((i - 1 : Nat) : Int) := by rw [wrap64_id (by omega) (by omega)]; omega
        obtain ⟨v, hv, hvl⟩ := order_ev (L.getD (i - 1) z27) (L.getD i z27)
        refine Ev.step (fun k => by
          simp only [impl_timersFault.l0, hw, hp, rdG, timerOK_eq, hok, impl_timerAt.f, Option.bind_some, Int.toNat_natCast]
          rw [if_pos (by omega), if_pos (by omega), if_pos (by omega), if_pos trivial, if_pos (by omega), if_pos (by omega), if_pos (by omega)]) ?_
        refine Ev.bind hv ?_
        by_cases hl : lessT (L.getD (i - 1) z27) (L.getD i z27)
        · have hv0 : ¬ v ≥ 0 := fun q => hvl.1 q hl
          by_cases hj : ∀ j, j < i → (L.getD j z27).f1 ≠ (L.getD i z27).f1
          · rw [chk_go ⟨hok, fun _ => hl, hj⟩]
            refine Ev.congr (fun k => ?_) h
            rw [if_neg hv0, if_pos (by omega), if_neg (fun q => hn.1 q hj)]
          · rw [chk_bad (fun g => hj g.2.2)]
            refine Ev.congr (f := fun _ => some _) (fun k => ?_) (Ev.now _)
            rw [if_neg hv0, if_pos (by omega), if_pos (hn.2 hj)]; rfl
        · rw [chk_bad (fun g => hl (g.2.1 h0))]
          refine Ev.congr (f := fun _ => some _) (fun k => ?_) (Ev.now _)
          rw [if_pos (hvl.2 hl)]; rfl
      · refine Ev.step (fun k => by
          simp only [impl_timersFault.l0, hw, rdG, timerOK_eq, hok, impl_timerAt.f, Option.bind_some, Int.toNat_natCast]
          rw [if_pos (by omega), if_pos (by omega), if_pos (by omega), if_pos trivial, if_neg (by omega), if_pos (by omega)]) ?_
        by_cases hj : ∀ j, j < i → (L.getD j z27).f1 ≠ (L.getD i z27).f1
        · rw [chk_go ⟨hok, fun q => absurd q h0, hj⟩]
          refine Ev.congr (fun k => ?_) h
          rw [if_neg (fun q => hn.1 q hj)]
        · rw [chk_bad (fun g => hj g.2.2)]
          refine Ev.congr (f := fun _ => some _) (fun k => ?_) (Ev.now _)
          rw [if_pos (hn.2 hj)]; rfl
theorem fault_ev (L : List S27) : Ev (fun k => impl_timersFault.f k L) (if L.length > 4096 then 2 else if chk L L.length 0 = true then 0 else 1) := by
  by_cases h : L.length > 4096
  · rw [if_pos h]
    refine Ev.congr (f := fun _ => some _) (fun k => ?_) (Ev.now _)
    unfold impl_timersFault.f
    rw [if_pos (by omega)]
  · rw [if_neg h]
    refine Ev.congr (fun k => ?_) (fault_l0 L (by omega) L.length 0 (by omega))
    unfold impl_timersFault.f
    rw [if_neg (by omega)]; rfl
theorem in_ok (a : Int) : spec_l01In.f a 0 1000000 = some (decide (0 ≤ a ∧ a ≤ 1000000)) := by
  unfold spec_l01In.f
  by_cases h : 0 ≤ a
  · rw [if_pos h]; simp [h]
  · rw [if_neg h]; simp; omega
open Classical in
theorem spec_l1 (L : List S27) (hL : L.length ≤ 1048576) (i : Nat) (hi : i < L.length) (r : Bool) (h : Ev (fun k => spec_l05Timers.l0 k L ((i + 1 : Nat) : Int)) r) (d : Nat) : ∀ j : Nat, j + d = i → Ev (fun k => spec_l05Timers.l1 k L (i : Int) (j : Int)) (if (∀ q, j ≤ q → q < i → (L.getD q z27).f1 ≠ (L.getD i z27).f1) then r else false) := by
  have hw : wrap64 ((i : Int) + 1) = ((i + 1 : Nat) : Int) := by rw [wrap64_id (by omega) (by omega)]; omega
  induction d with
  | zero =>
    intro j hj
    rw [if_pos (fun q h1 h2 => by omega)]
    refine Ev.step (fun k => ?_) h
    simp only [spec_l05Timers.l1, hw]; rw [if_neg (by omega)]
  | succ d ih =>
    intro j hj
    have hw2 : wrap64 ((j : Int) + 1) = ((j + 1 : Nat) : Int) := by rw [wrap64_id (by omega) (by omega)]; omega
    by_cases e : (L.getD j z27).f1 = (L.getD i z27).f1
    · rw [if_neg (fun q => q j (Nat.le_refl _) (by omega) e)]
      refine Ev.step (f := fun _ => some _) (fun k => ?_) (Ev.now _)
      simp only [spec_l05Timers.l1, rdG]; rw [if_pos (by omega), if_pos (by omega), if_pos (by omega), if_pos (by omega), if_pos (by omega), if_pos e]
    · have h2 := ih (j + 1) (by omega)
      have e2 : (∀ q, j ≤ q → q < i → (L.getD q z27).f1 ≠ (L.getD i z27).f1) ↔ (∀ q, j + 1 ≤ q → q < i → (L.getD q z27).f1 ≠ (L.getD i z27).f1) :=
        ⟨fun g q h1 h3 => g q (by omega) h3, fun g q h1 h3 => by
          by_cases eq : q = j
          · rw [eq]; exact e
          · exact g q (by omega) h3⟩
      rw [show (if (∀ q, j ≤ q → q < i → (L.getD q z27).f1 ≠ (L.getD i z27).f1) then r else false) = (if (∀ q, j + 1 ≤ q → q < i → (L.getD q z27).f1 ≠ (L.getD i z27).f1) then r else false) from by simp only [e2]]
      refine Ev.step (fun k => ?_) h2
      simp only [spec_l05Timers.l1, rdG, hw2]; rw [if_pos (by omega), if_pos (by omega), if_pos (by omega), if_pos (by omega), if_pos (by omega), if_neg e]
theorem spec_l0 (L : List S27) (hL : L.length ≤ 1048576) (d : Nat) : ∀ i : Nat, i + d = L.length → Ev (fun k => spec_l05Timers.l0 k L (i : Int)) (chk L d i) := by
  induction d with
  | zero =>
    intro i hi
    rw [show chk L 0 i = decide (L.length ≤ 20) from rfl]
    refine Ev.step (f := fun _ => some _) (fun k => ?_) (Ev.now _)
    simp only [spec_l05Timers.l0]; rw [if_neg (by omega)]; congr 1; apply decide_eq_decide.2; omega
  | succ d ih =>
    intro i hi
    have h := spec_l1 L hL i (by omega) _ (ih (i + 1) (by omega)) i 0 (by omega)
    have bad : ∀ k, spec_l05Timers.j1 (k + 1) L (i : Int) true = some false := fun k => by simp only [spec_l05Timers.j1]; rw [if_pos trivial]
    have bad2 : ∀ k, spec_l05Timers.j2 (k + 1) L (i : Int) true = some false := fun k => by simp only [spec_l05Timers.j2]; rw [if_pos trivial]
    have toJ1 : okT (L.getD i z27) = true → ∀ r, Ev (fun k => spec_l05Timers.j1 k L (i : Int) false) r → Ev (fun k => spec_l05Timers.l0 k L (i : Int)) r := fun hok r hr => by
      unfold okT at hok
      have hok := of_decide_eq_true hok
      refine Ev.step (fun k => ?_) hr
      simp only [spec_l05Timers.l0, rdG, in_ok]
      rw [if_pos (by omega), if_pos (by omega), Option.bind_some, decide_eq_true ⟨hok.1, hok.2.1⟩, if_pos rfl, Option.bind_some, decide_eq_true ⟨hok.2.2.1, hok.2.2.2⟩]; rfl
    have fin : (∀ j, j < i → (L.getD j z27).f1 ≠ (L.getD i z27).f1) → Ev (fun k => spec_l05Timers.j2 k L (i : Int) false) (chk L d (i + 1)) := fun hj => by
      rw [if_pos (fun q _ h2 => hj q h2)] at h
      refine Ev.step (fun k => ?_) h
      simp only [spec_l05Timers.j2]; rw [if_neg (by simp)]; rfl
    have fin2 : (¬ ∀ j, j < i → (L.getD j z27).f1 ≠ (L.getD i z27).f1) → Ev (fun k => spec_l05Timers.j2 k L (i : Int) false) false := fun hj => by
      rw [if_neg (fun q => hj (fun j h2 => q j (Nat.zero_le _) h2))] at h
      refine Ev.step (fun k => ?_) h
      simp only [spec_l05Timers.j2]; rw [if_neg (by simp)]; rfl
    cases hok : okT (L.getD i z27) with
    | false =>
      rw [chk_bad (fun g => by rw [g.1] at hok; cases hok)]
      have hno : ¬ (0 ≤ (L.getD i z27).f0 ∧ (L.getD i z27).f0 ≤ 1000000 ∧ 0 ≤ (L.getD i z27).f1 ∧ (L.getD i z27).f1 ≤ 1000000) := by unfold okT at hok; exact of_decide_eq_false hok
      have jb : Ev (fun k => spec_l05Timers.j1 k L (i : Int) true) false := Ev.step (f := fun _ => some false) bad (Ev.now _)
      refine Ev.step (fun k => ?_) jb
      simp only [spec_l05Timers.l0, rdG, in_ok]
      rw [if_pos (by omega), if_pos (by omega), Option.bind_some]
      by_cases h1 : 0 ≤ (L.getD i z27).f0 ∧ (L.getD i z27).f0 ≤ 1000000
      · rw [decide_eq_true h1, if_pos rfl, Option.bind_some, decide_eq_false (fun q => hno ⟨h1.1, h1.2, q.1, q.2⟩)]; rfl
      · rw [decide_eq_false h1, if_neg (by simp)]
    | true =>
      refine toJ1 hok _ ?_
      by_cases h0 : 0 < i
      · have hp : wrap64 ((i : Int) - 1) = ((i - 1 : Nat) : Int) := by rw [wrap64_id (by omega) (by omega)]; omega
        have step : ∀ b r, Ev (fun k => spec_l05Timers.j2 k L (i : Int) b) r → (if (L.getD (i - 1) z27).f0 > (L.getD i z27).f0 then true else if (L.getD (i - 1) z27).f0 = (L.getD i z27).f0 then decide ((L.getD (i - 1) z27).f1 ≥ (L.getD i z27).f1) else false) = b → Ev (fun k => spec_l05Timers.j1 k L (i : Int) false) r := fun b r hr e => by
          refine Ev.step (fun k => ?_) hr
          simp only [spec_l05Timers.j1, hp, rdG]
          rw [if_neg (by simp), if_pos (by omega), if_pos (by omega), if_pos (by omega), if_pos (by omega), if_pos (by omega), ← e]
          split
          · rfl
          · split <;> rfl
        by_cases hl : lessT (L.getD (i - 1) z27) (L.getD i z27)
        · have eb : (if (L.getD (i - 1) z27).f0 > (L.getD i z27).f0 then true else if (L.getD (i - 1) z27).f0 = (L.getD i z27).f0 then decide ((L.getD (i - 1) z27).f1 ≥ (L.getD i z27).f1) else false) = false := by
            unfold lessT at hl
            rw [if_neg (by omega)]
            split
            · apply decide_eq_false; omega
            · rfl
          by_cases hj : ∀ j, j < i → (L.getD j z27).f1 ≠ (L.getD i z27).f1
          · rw [chk_go ⟨hok, fun _ => hl, hj⟩]; exact step _ _ (fin hj) eb
          · rw [chk_bad (fun g => hj g.2.2)]; exact step _ _ (fin2 hj) eb
        · rw [chk_bad (fun g => hl (g.2.1 h0))]
          refine step true _ (Ev.step (f := fun _ => some false) bad2 (Ev.now _)) ?_
          unfold lessT at hl
          split
          · rfl
          · rw [if_pos (by omega)]; apply decide_eq_true; omega
      · have step : ∀ r, Ev (fun k => spec_l05Timers.j2 k L (i : Int) false) r → Ev (fun k => spec_l05Timers.j1 k L (i : Int) false) r := fun r hr => by
          refine Ev.step (fun k => ?_) hr
          simp only [spec_l05Timers.j1]
          rw [if_neg (by simp), if_neg (by omega)]
        by_cases hj : ∀ j, j < i → (L.getD j z27).f1 ≠ (L.getD i z27).f1
        · rw [chk_go ⟨hok, fun q => absurd q h0, hj⟩]; exact step _ (fin hj)
        · rw [chk_bad (fun g => hj g.2.2)]; exact step _ (fin2 hj)
theorem timers_ev (L : List S27) (hL : L.length ≤ 1048576) : Ev (fun k => spec_l05Timers.f k L) (chk L L.length 0) := by
  refine Ev.congr (fun k => ?_) (spec_l0 L hL L.length 0 (by omega))
  unfold spec_l05Timers.f; rfl
theorem chk_sorted {L : List S27} (h : chk L L.length 0 = true) : L.Pairwise (fun x y => x.f0 ≤ y.f0) := by
  have hg := (chk_good L _ _ h).1
  have hs : ∀ d i, i + d < L.length → (L.getD i z27).f0 ≤ (L.getD (i + d) z27).f0 := by
    intro d
    induction d with
    | zero => intro i hi; exact Int.le_refl _
    | succ d ih =>
      intro i hi
      have h1 := ih i (by omega)
      have h2 := (hg (i + (d + 1)) (by omega) (by omega)).2.1 (by omega)
      rw [show i + (d + 1) - 1 = i + d by omega] at h2
      unfold lessT at h2; omega
  rw [List.pairwise_iff_getElem]
  intro i j hi hj hij
  have := hs (j - i) i (by omega)
  rw [show i + (j - i) = j by omega] at this
  simpa [List.getD_eq_getElem?_getD, hi, hj] using this
/-! ### a timer dropped -/
theorem chk_ids {L : List S27} (h : chk L L.length 0 = true) : L.Pairwise (fun x y => x.f1 ≠ y.f1) := by
  have hg := (chk_good L _ _ h).1
  rw [List.pairwise_iff_getElem]
  intro i j hi hj hij
  have := (hg j (Nat.zero_le _) (by omega)).2.2 i hij
  simpa [List.getD_eq_getElem?_getD, hi, hj] using this
theorem drop_eq (id : Int) (l : List S27) (h : l.Pairwise (fun x y => x.f1 ≠ y.f1)) : ∀ i : Int, (idx id l i = -1 ∧ l.filter (fun x => !decide (x.f1 = id)) = l) ∨ (∃ n : Nat, n < l.length ∧ idx id l i = i + n ∧ l.filter (fun x => !decide (x.f1 = id)) = l.eraseIdx n) := by
  induction l with
  | nil => intro i; exact Or.inl ⟨rfl, rfl⟩
  | cons x xs ih =>
    intro i
    obtain ⟨h1, h2⟩ := List.pairwise_cons.1 h
    simp only [idx]
    by_cases hx : x.f1 = id
    · rw [if_pos hx]
      refine Or.inr ⟨0, by simp, by simp, ?_⟩
      rw [List.filter_cons_of_neg (by simp [hx]), List.eraseIdx_zero, List.tail_cons]
      exact List.filter_eq_self.2 (fun y hy => by have := h1 y hy; rw [hx] at this; simp; exact fun e => this e.symm)
    · rw [if_neg hx, List.filter_cons_of_pos (by simp [hx])]
      rcases ih h2 (i + 1) with ⟨e1, e2⟩ | ⟨n, hn, e1, e2⟩
      · exact Or.inl ⟨e1, by rw [e2]⟩
      · refine Or.inr ⟨n + 1, by simp; omega, by rw [e1]; omega, ?_⟩
        rw [e2, List.eraseIdx_cons_succ]
theorem drop_l0 (id : Int) (L : List S27) (hL : L.length ≤ 1048576) (d : Nat) : ∀ (i : Nat) (o : List S27), i + d = L.length → o.length ≤ i → Ev (fun k => spec_l05Drop.l0 k L id o (i : Int)) (o ++ (L.drop i).filter (fun x => !decide (x.f1 = id))) := by
  induction d with
  | zero =>
    intro i o hi _
    refine Ev.step (f := fun _ => some _) (fun k => ?_) (Ev.now _)
    simp only [spec_l05Drop.l0]; rw [if_neg (by omega), List.drop_eq_nil_of_le (by omega)]; simp
  | succ d ih =>
    intro i o hi ho
    have hw : wrap64 ((i : Int) + 1) = ((i + 1 : Nat) : Int) := by rw [wrap64_id (by omega) (by omega)]; omega
    have hi' : i < L.length := by omega
    rw [List.drop_eq_getElem_cons hi']
    by_cases hx : (L[i]).f1 = id
    · have h := ih (i + 1) o (by omega) (by omega)
      rw [List.filter_cons_of_neg (by simp [hx])]
      refine Ev.step (fun k => ?_) h
      simp only [spec_l05Drop.l0, hw, rdT L i hi']; rw [if_pos (by omega), if_pos (by omega), if_pos hx]
    · have h := ih (i + 1) (o ++ [L[i]]) (by omega) (by simp; omega)
      rw [List.filter_cons_of_pos (by simp [hx])]
      rw [List.append_assoc] at h
      refine Ev.step (fun k => ?_) h
      simp only [spec_l05Drop.l0, hw, rdT L i hi']; rw [if_pos (by omega), if_pos (by omega), if_neg hx, if_pos (by omega)]
theorem drop_ev (id : Int) (L : List S27) (hL : L.length ≤ 1048576) : Ev (fun k => spec_l05Drop.f k L id) (L.filter (fun x => !decide (x.f1 = id))) := by
  have h := drop_l0 id L hL L.length 0 [] (by omega) (by simp)
  rw [List.drop_zero, List.nil_append] at h
  exact Ev.congr (fun k => by unfold spec_l05Drop.f; rfl) h
/-! ### a timer put -/
theorem less_trans {x y z : S27} (h1 : lessT x y) (h2 : lessT y z) : lessT x z := by unfold lessT at *; omega
theorem chk_less {L : List S27} (h : chk L L.length 0 = true) : L.Pairwise lessT := by
  have hg := (chk_good L _ _ h).1
  have step : ∀ d i : Nat, (hi : i + d + 1 < L.length) → lessT L[i] L[i + d + 1] := by
    intro d
    induction d with
    | zero =>
      intro i hi
      have := (hg (i + 1) (Nat.zero_le _) (by omega)).2.1 (by omega)
      simpa [List.getD_eq_getElem?_getD, show i < L.length by omega, show i + 1 < L.length by omega] using this
    | succ d ih =>
      intro i hi
      have h1 := ih i (by omega)
      have h2 := (hg (i + d + 2) (Nat.zero_le _) (by omega)).2.1 (by omega)
      have h3 : lessT L[i + d + 1] L[i + d + 2] := by simpa [List.getD_eq_getElem?_getD, show i + d + 1 < L.length by omega, show i + d + 2 < L.length by omega] using h2
      exact less_trans h1 h3
  rw [List.pairwise_iff_getElem]
  intro i j hi hj hij
  have := step (j - i - 1) i (by omega)
  simpa [show i + (j - i - 1) + 1 = j by omega] using this
def leB (x y : S27) : Bool := !(ltOf ordv) y x
theorem leB_iff (x y : S27) : leB x y = true ↔ ¬ lessT y x := by
  unfold leB ltOf lessT
  rw [Bool.not_eq_true', decide_eq_false_iff_not, ord_lt]
theorem uniq : ∀ (l1 l2 : List S27), l1.Perm l2 → l1.Pairwise (fun x y => leB x y = true) → l2.Pairwise (fun x y => leB x y = true) → l1 = l2 := by
  intro l1
  induction l1 with
  | nil => intro l2 hp _ _; exact (List.nil_perm.1 hp).symm
  | cons x xs ih =>
    intro l2 hp h1 h2
    cases l2 with
    | nil => exact absurd hp.symm.nil_eq (by simp)
    | cons y ys =>
      obtain ⟨a1, b1⟩ := List.pairwise_cons.1 h1
      obtain ⟨a2, b2⟩ := List.pairwise_cons.1 h2
      have hxy : x = y := by
        have hx : x ∈ y :: ys := hp.mem_iff.1 (List.mem_cons_self)
        have hy : y ∈ x :: xs := hp.mem_iff.2 (List.mem_cons_self)
        rcases List.mem_cons.1 hx with e | e
        · exact e
        · rcases List.mem_cons.1 hy with e2 | e2
          · exact e2.symm
          · have c1 := (leB_iff y x).1 (a2 x e)
            have c2 := (leB_iff x y).1 (a1 y e2)
            unfold lessT at c1 c2
            cases x; cases y
            simp only [S27.mk.injEq] at *
            omega
      subst hxy
      rw [ih ys (List.Perm.cons_inv hp) b1 b2]
def pB (t x : S27) : Bool := decide (lessT x t)
instance (x y : S27) : Decidable (lessT x y) := by unfold lessT; infer_instance
def ins (F : List S27) (t : S27) : List S27 := F.takeWhile (fun x => ltOf ordv x t) ++ ([t] ++ F.dropWhile (fun x => ltOf ordv x t))
theorem lt_iff (x t : S27) : ltOf ordv x t = true ↔ lessT x t := by
  unfold ltOf lessT
  rw [decide_eq_true_eq, ord_lt]
theorem ins_sorted (F : List S27) (t : S27) (h : F.Pairwise lessT) : (ins F t).Pairwise (fun x y => leB x y = true) := by
  have ss : ∀ l : List S27, l.Pairwise lessT → l.Pairwise (fun x y => leB x y = true) := fun l hl => hl.imp (fun {a b} q => by rw [leB_iff]; unfold lessT at *; omega)
  unfold ins
  have hsplit : F.takeWhile (fun x => ltOf ordv x t) ++ F.dropWhile (fun x => ltOf ordv x t) = F := List.takeWhile_append_dropWhile
  have hF := h
  rw [← hsplit] at hF
  obtain ⟨g1, g2, g3⟩ := List.pairwise_append.1 hF
  have hlt : ∀ x ∈ F.takeWhile (fun x => ltOf ordv x t), lessT x t := fun x hx => (lt_iff x t).1 (List.all_eq_true.1 List.all_takeWhile x hx)
  have hge : ∀ y ∈ F.dropWhile (fun x => ltOf ordv x t), ¬ lessT y t := by
    cases hd : F.dropWhile (fun x => ltOf ordv x t) with
    | nil => intro y hy; cases hy
    | cons z zs =>
      have hz : ¬ lessT z t := fun q => by
        have h0 := List.head_dropWhile_not (fun x => ltOf ordv x t) (by rw [hd]; simp)
        simp only [hd, List.head_cons] at h0
        rw [(lt_iff z t).2 q] at h0; cases h0
      rw [hd] at g2
      obtain ⟨g4, _⟩ := List.pairwise_cons.1 g2
      intro y hy
      rcases List.mem_cons.1 hy with e | e
      · rw [e]; exact hz
      · have := g4 y e
        unfold lessT at *; omega
  refine List.pairwise_append.2 ⟨ss _ g1, ?_, ?_⟩
  · refine List.pairwise_cons.2 ⟨fun y hy => (leB_iff _ _).2 (hge y (by simpa using hy)), ss _ g2⟩
  · intro x hx y hy
    rw [leB_iff]
    rcases List.mem_append.1 hy with e | e
    · have : y = t := by simpa using e
      rw [this]
      have := hlt x hx
      unfold lessT at *; omega
    · have := g3 x hx y e
      unfold lessT at *; omega
theorem srt_ins (F : List S27) (t : S27) (h : F.Pairwise lessT) : srt (F ++ [t]) = ins F t := by
  apply uniq
  · refine (List.mergeSort_perm _ _).trans ?_
    unfold ins
    have hsplit : F.takeWhile (fun x => ltOf ordv x t) ++ F.dropWhile (fun x => ltOf ordv x t) = F := List.takeWhile_append_dropWhile
    conv => lhs; rw [← hsplit]
    rw [List.append_assoc]
    exact List.Perm.append_left _ List.perm_append_comm
  · exact List.pairwise_mergeSort (le := leB) (fun a b c h1 h2 => by rw [leB_iff] at *; unfold lessT at *; omega) (fun a b => by
      by_cases q : lessT b a
      · have : leB b a = true := by rw [leB_iff]; unfold lessT at *; omega
        rw [this]; simp
      · have : leB a b = true := by rw [leB_iff]; exact q
        rw [this]; simp) (F ++ [t])
  · exact ins_sorted F t h
theorem put_stop (F : List S27) (hF : F.length ≤ 1048576) (a b : Int) (i : Nat) (hi : i ≤ F.length) : Ev (fun k => spec_TimerPut.j2 k F (i : Int) false a b) ((F.take i ++ [⟨a, b⟩]) ++ F.drop i, 0) := by
  refine Ev.step (f := fun _ => some _) (fun k => ?_) (Ev.now _)
  simp only [spec_TimerPut.j2, Option.bind_some, List.nil_append, Int.toNat_natCast]
  rw [if_neg (by simp), if_pos (by omega), if_pos (by omega), if_pos (by simp; omega), if_pos (by simp; omega), if_pos (by simp; omega)]
theorem put_l0 (F : List S27) (hF : F.length ≤ 1048576) (a b : Int) (d : Nat) : ∀ i : Nat, i + d = F.length → Ev (fun k => spec_TimerPut.l0 k F (i : Int) a b) ((F.take i ++ (F.drop i).takeWhile (fun x => ltOf ordv x ⟨a, b⟩)) ++ ([⟨a, b⟩] ++ (F.drop i).dropWhile (fun x => ltOf ordv x ⟨a, b⟩)), 0) := by
  induction d with
  | zero =>
    intro i hi
    have h := put_stop F hF a b i (by omega)
    have e : (F.take i ++ (F.drop i).takeWhile (fun x => ltOf ordv x ⟨a, b⟩)) ++ ([⟨a, b⟩] ++ (F.drop i).dropWhile (fun x => ltOf ordv x ⟨a, b⟩)) = (F.take i ++ [(⟨a, b⟩ : S27)]) ++ F.drop i := by
      rw [List.drop_eq_nil_of_le (by omega)]; simp
    rw [e]
    refine Ev.step (fun k => ?_) h
    simp only [spec_TimerPut.l0]
    rw [if_neg (by omega)]
  | succ d ih =>
    intro i hi
    have hw : wrap64 ((i : Int) + 1) = ((i + 1 : Nat) : Int) := by rw [wrap64_id (by omega) (by omega)]; omega
    have hi' : i < F.length := by omega
    have h0 := ih (i + 1) (by omega)
    have h : Ev (fun k => spec_TimerPut.j2 k F (i : Int) true a b) ((F.take (i + 1) ++ (F.drop (i + 1)).takeWhile (fun x => ltOf ordv x ⟨a, b⟩)) ++ ([⟨a, b⟩] ++ (F.drop (i + 1)).dropWhile (fun x => ltOf ordv x ⟨a, b⟩)), 0) := by
      refine Ev.step (fun k => ?_) h0
      simp only [spec_TimerPut.j2, hw, if_true]
    have hs := put_stop F hF a b i (by omega)
    have hgo : ltOf ordv F[i] ⟨a, b⟩ = true → (F.take (i + 1) ++ (F.drop (i + 1)).takeWhile (fun x => ltOf ordv x ⟨a, b⟩)) ++ ([(⟨a, b⟩ : S27)] ++ (F.drop (i + 1)).dropWhile (fun x => ltOf ordv x ⟨a, b⟩)) = (F.take i ++ (F.drop i).takeWhile (fun x => ltOf ordv x ⟨a, b⟩)) ++ ([⟨a, b⟩] ++ (F.drop i).dropWhile (fun x => ltOf ordv x ⟨a, b⟩)) := fun q => by
      rw [List.drop_eq_getElem_cons hi', List.takeWhile_cons_of_pos (p := fun x => ltOf ordv x ⟨a, b⟩) q, List.dropWhile_cons_of_pos (p := fun x => ltOf ordv x ⟨a, b⟩) q, List.take_succ_eq_append_getElem hi']; simp only [List.append_assoc, List.singleton_append, List.cons_append, List.nil_append]
    have hstop : ltOf ordv F[i] ⟨a, b⟩ = false → (F.take i ++ (F.drop i).takeWhile (fun x => ltOf ordv x ⟨a, b⟩)) ++ ([⟨a, b⟩] ++ (F.drop i).dropWhile (fun x => ltOf ordv x ⟨a, b⟩)) = (F.take i ++ [⟨a, b⟩]) ++ F.drop i := fun q => by
      rw [List.drop_eq_getElem_cons hi', List.takeWhile_cons_of_neg (p := fun x => ltOf ordv x ⟨a, b⟩) (by rw [q]; simp), List.dropWhile_cons_of_neg (p := fun x => ltOf ordv x ⟨a, b⟩) (by rw [q]; simp)]; simp
    by_cases c1 : (F[i]).f0 < a
    · have q : ltOf ordv F[i] ⟨a, b⟩ = true := by rw [lt_iff]; exact Or.inl c1
      rw [hgo q] at h
      refine Ev.step (fun k => ?_) h
      simp only [spec_TimerPut.l0, rdT F i hi']
      rw [if_pos (by omega), if_pos (by omega), if_pos c1]
    · by_cases c2 : (F[i]).f0 = a
      · by_cases c3 : (F[i]).f1 < b
        · have q : ltOf ordv F[i] ⟨a, b⟩ = true := by rw [lt_iff]; exact Or.inr ⟨c2, c3⟩
          rw [hgo q] at h
          refine Ev.step (fun k => ?_) h
          simp only [spec_TimerPut.l0, rdT F i hi']
          rw [if_pos (by omega), if_pos (by omega), if_neg c1, if_pos c2, decide_eq_true c3]
        · have q : ltOf ordv F[i] ⟨a, b⟩ = false := by
            cases e : ltOf ordv F[i] ⟨a, b⟩ with
            | false => rfl
            | true => rw [lt_iff] at e; unfold lessT at e; exact absurd e (by simp only; omega)
          rw [hstop q]
          refine Ev.step (fun k => ?_) hs
          simp only [spec_TimerPut.l0, rdT F i hi']
          rw [if_pos (by omega), if_pos (by omega), if_neg c1, if_pos c2, decide_eq_false c3]
      · have q : ltOf ordv F[i] ⟨a, b⟩ = false := by
          cases e : ltOf ordv F[i] ⟨a, b⟩ with
          | false => rfl
          | true => rw [lt_iff] at e; unfold lessT at e; exact absurd e (by simp only; omega)
        rw [hstop q]
        refine Ev.step (fun k => ?_) hs
        simp only [spec_TimerPut.l0, rdT F i hi']
        rw [if_pos (by omega), if_pos (by omega), if_neg c1, if_neg c2]
theorem chk_one (t : S27) : chk [t] [t].length 0 = okT t := by
  show chk [t] 1 0 = okT t
  unfold chk
  by_cases h : okT t = true
  · have g : good [t] 0 := ⟨h, fun q => absurd q (Nat.lt_irrefl 0), fun j q => absurd q (Nat.not_lt_zero j)⟩
    rw [if_pos g, h]; unfold chk; rfl
  · have g : ¬ good [t] 0 := fun g => h g.1
    rw [if_neg g]; exact (Bool.eq_false_iff.2 h).symm
theorem del_filter (id : Int) (L : List S27) (h : L.Pairwise (fun x y => x.f1 ≠ y.f1)) : delL id L = some (L.filter (fun x => !decide (x.f1 = id))) := by
  unfold delL
  rcases drop_eq id L h 0 with ⟨e1, e2⟩ | ⟨n, hn, e1, e2⟩
  · rw [e1, if_pos (by decide), e2]
  · rw [e1, if_neg (by omega), Int.zero_add, Int.toNat_natCast, ← e2, if_pos]
    rw [List.all_eq_true]
    intro x hx
    have := (List.mem_filter.1 hx).2
    simpa using this
theorem put_both (L : List S27) (hL : L.length ≤ 1048576) (a b : Int) : ∃ (S : List S27) (c : Int), Ev (fun k => spec_TimerPut.f k L a b) (S, c) ∧ Ev (fun k => impl_TimerPut.f k L a b) (S, c) ∧ S.length ≤ 1048576 := by
  have hf := fault_ev L
  have ht := timers_ev L hL
  by_cases h1 : L.length > 4096
  · rw [if_pos h1] at hf
    refine ⟨[], 2, ?_, ?_, by simp⟩
    · exact Ev.congr (f := fun _ => some _) (fun k => by unfold spec_TimerPut.f; rw [if_pos (by omega)]) (Ev.now _)
    · unfold impl_TimerPut.f
      exact Ev.bind hf (Ev.congr (f := fun _ => some _) (fun k => by rw [if_neg (by decide)]) (Ev.now _))
  · rw [if_neg h1] at hf
    have bad : ∀ k : Nat, spec_TimerPut.j0 (k + 1) L true a b = some ([], 1) := fun k => by simp only [spec_TimerPut.j0]; rw [if_pos trivial]
    have badE : Ev (fun k => spec_TimerPut.j0 k L true a b) (([] : List S27), (1 : Int)) := Ev.step (f := fun _ => some _) (fun k => bad k) (Ev.now _)
    cases hc : chk L L.length 0 with
    | false =>
      rw [hc] at hf ht
      refine ⟨[], 1, ?_, ?_, by simp⟩
      · exact Ev.congr (fun k => by unfold spec_TimerPut.f; rw [if_neg (by omega)]) (Ev.bind ht (Ev.congr (fun k => by rw [if_neg (by simp)]) badE))
      · unfold impl_TimerPut.f
        exact Ev.bind hf (Ev.congr (f := fun _ => some _) (fun k => by rw [if_neg (by decide)]; rfl) (Ev.now _))
    | true =>
      have h20 := (chk_good L _ _ hc).2
      have hids := chk_ids hc
      have hless := chk_less hc
      rw [hc] at hf ht
      have h1t := timers_ev [(⟨a, b⟩ : S27)] (by simp)
      rw [chk_one] at h1t
      have hok := timerOK_eq (⟨a, b⟩ : S27)
      cases ho : okT (⟨a, b⟩ : S27) with
      | false =>
        rw [ho] at h1t hok
        refine ⟨[], 1, ?_, ?_, by simp⟩
        · exact Ev.congr (fun k => by unfold spec_TimerPut.f; rw [if_neg (by omega)]) (Ev.bind ht (Ev.congr (fun k => by rw [if_pos rfl]) (Ev.bind h1t badE)))
        · unfold impl_TimerPut.f
          exact Ev.bind hf (Ev.congr (f := fun _ => some _) (fun k => by rw [if_pos (by decide), hok, Option.bind_some, if_neg (by simp)]) (Ev.now _))
      | true =>
        rw [ho] at h1t hok
        have hd := drop_ev b L hL
        have hdel := del_filter b L hids
        have hcl : impl_Timer_31.f L = some L := by unfold impl_Timer_31.f; rw [if_pos (by omega)]
        have hFl : (L.filter (fun x => !decide (x.f1 = b))).length ≤ L.length := List.length_filter_le _ _
        have hFs : (L.filter (fun x => !decide (x.f1 = b))).Pairwise lessT := hless.filter _
        generalize L.filter (fun x => !decide (x.f1 = b)) = F at hd hdel hFl hFs
        have eS : ∀ r, Ev (fun k => if (F.length : Int) = 20 then ((some (([] : List S27) : List S27)).bind fun y165 => (if y165.length + L.length < 8796093022208 then (some ((y165 ++ L), 7)) else (none))) else (spec_TimerPut.l0 k F 0 a b)) r → Ev (fun k => spec_TimerPut.f k L a b) r := fun r h => by
          refine Ev.congr (fun k => by unfold spec_TimerPut.f; rw [if_neg (by omega)]) (Ev.bind ht (Ev.congr (fun k => by rw [if_pos rfl]) (Ev.bind h1t ?_)))
          refine Ev.step (f := fun k => (spec_l05Drop.f k L b).bind fun t162 => (if (t162.length : Int) = 20 then ((some (([] : List S27) : List S27)).bind fun y165 => (if y165.length + L.length < 8796093022208 then (some ((y165 ++ L), 7)) else (none))) else (spec_TimerPut.l0 k t162 0 a b))) (fun k => ?_) (Ev.bind hd h)
          simp only [spec_TimerPut.j0]
          rw [if_neg (by simp)]
        have eI : ∀ r, (if F.length = 20 then some (L, (7 : Int)) else if F.length < 1000000 then some (srt (F ++ [⟨a, b⟩]), 0) else none) = some r → Ev (fun k => impl_TimerPut.f k L a b) r := fun r h => by
          unfold impl_TimerPut.f
          exact Ev.bind hf (Ev.congr (f := fun _ => some r) (fun k => by rw [if_pos (by decide), hok, Option.bind_some, if_pos rfl, hcl, Option.bind_some, hdel, Option.bind_some]; exact h) (Ev.now _))
        by_cases c20 : F.length = 20
        · refine ⟨L, 7, eS _ (Ev.congr (f := fun _ => some _) (fun k => by rw [if_pos (by omega), Option.bind_some, if_pos (by simp; omega)]; rfl) (Ev.now _)), eI _ (by rw [if_pos c20]), hL⟩
        · have hp := put_l0 F (by omega) a b F.length 0 (by omega)
          rw [List.take_zero, List.drop_zero, List.nil_append] at hp
          have hs := srt_ins F ⟨a, b⟩ hFs
          refine ⟨ins F ⟨a, b⟩, 0, eS _ (Ev.congr (fun k => by rw [if_neg (by omega)]; rfl) hp), eI _ (by rw [if_neg c20, if_pos (by omega), hs]), ?_⟩
          rw [← hs]
          unfold srt
          rw [List.length_mergeSort]; simp; omega
/-! ### timers that are due -/
theorem due_filter (a : Int) (M : List S27) (h : M.Pairwise (fun x y => x.f0 ≤ y.f0)) : M.filter (fun x => decide (x.f0 ≤ a)) = M.takeWhile (fun x => decide (x.f0 ≤ a)) ∧ M.filter (fun x => !decide (x.f0 ≤ a)) = M.dropWhile (fun x => decide (x.f0 ≤ a)) := by
  induction M with
  | nil => simp
  | cons x xs ih =>
    obtain ⟨h1, h2⟩ := List.pairwise_cons.1 h
    obtain ⟨i1, i2⟩ := ih h2
    by_cases hx : x.f0 ≤ a
    · simp [hx, List.takeWhile, List.dropWhile]; exact ⟨by simpa using i1, by simpa using i2⟩
    · have hn : ∀ y ∈ xs, ¬ y.f0 ≤ a := fun y hy => by have := h1 y hy; omega
      refine ⟨?_, ?_⟩
      · rw [List.filter_cons_of_neg (by simp [hx]), List.takeWhile_cons_of_neg (by simp [hx])]
        exact List.filter_eq_nil_iff.2 (fun y hy => by simp; have := hn y hy; omega)
      · rw [List.filter_cons_of_pos (by simp [hx]), List.dropWhile_cons_of_neg (by simp [hx])]
        congr 1
        exact List.filter_eq_self.2 (fun y hy => by simp; have := hn y hy; omega)
theorem dueI_l0 (a : Int) (L : List S27) (hL : L.length ≤ 1048576) (d : Nat) : ∀ (i : Nat) (o : List S27) (ids : List Int), i + d = L.length → o.length ≤ i → ids.length ≤ i → Ev (fun k => impl_TimersDue.l0 k a o ids L (L.length : Int) (i : Int)) (o ++ (L.drop i).filter (fun x => !decide (x.f0 ≤ a)), ids ++ ((L.drop i).filter (fun x => decide (x.f0 ≤ a))).map (·.f1), 0) := by
  induction d with
  | zero =>
    intro i o ids hi _ _
    refine Ev.step (f := fun _ => some _) (fun k => ?_) (Ev.now _)
    simp only [impl_TimersDue.l0]; rw [if_neg (by omega), List.drop_eq_nil_of_le (by omega)]; simp
  | succ d ih =>
    intro i o ids hi ho hd
    have hw : wrap64 ((i : Int) + 1) = ((i + 1 : Nat) : Int) := by rw [wrap64_id (by omega) (by omega)]; omega
    have hi' : i < L.length := by omega
    rw [List.drop_eq_getElem_cons hi']
    by_cases hx : (L[i]).f0 ≤ a
    · have h := ih (i + 1) o (ids ++ [(L[i]).f1]) (by omega) (by omega) (by simp; omega)
      rw [List.filter_cons_of_neg (by simp [hx]), List.filter_cons_of_pos (by simp [hx]), List.map_cons]
      rw [List.append_assoc] at h
      refine Ev.step (fun k => ?_) h
      simp only [impl_TimersDue.l0, hw, rdT L i hi']; rw [if_pos (by omega), if_pos (by omega), if_pos (by omega), if_pos hx, if_pos (by omega)]
    · have h := ih (i + 1) (o ++ [L[i]]) ids (by omega) (by simp; omega) (by omega)
      rw [List.filter_cons_of_pos (by simp [hx]), List.filter_cons_of_neg (by simp [hx])]
      rw [List.append_assoc] at h
      refine Ev.step (fun k => ?_) h
      simp only [impl_TimersDue.l0, hw, rdT L i hi']; rw [if_pos (by omega), if_pos (by omega), if_pos (by omega), if_neg hx, if_pos (by omega)]
theorem specd_l0 (a : Int) (L : List S27) (hL : L.length ≤ 1048576) (d : Nat) : ∀ (i : Nat) (ids : List Int), i + d = L.length → ids.length ≤ i → Ev (fun k => spec_TimersDue.l0 k L a (i : Int) ids) ((L.drop i).dropWhile (fun x => decide (x.f0 ≤ a)), ids ++ ((L.drop i).takeWhile (fun x => decide (x.f0 ≤ a))).map (·.f1), 0) := by
  induction d with
  | zero =>
    intro i ids hi _
    refine Ev.step (f := fun _ => some _) (fun k => ?_) (Ev.now _)
    simp only [spec_TimersDue.l0, Option.bind_some, Int.toNat_natCast]; rw [if_neg (by omega), if_pos (by omega), if_pos (by omega), List.drop_eq_nil_of_le (by omega)]; simp
  | succ d ih =>
    intro i ids hi hd
    have hw : wrap64 ((i : Int) + 1) = ((i + 1 : Nat) : Int) := by rw [wrap64_id (by omega) (by omega)]; omega
    have hi' : i < L.length := by omega
    by_cases hx : (L[i]).f0 ≤ a
    · have h := ih (i + 1) (ids ++ [(L[i]).f1]) (by omega) (by simp; omega)
      rw [List.drop_eq_getElem_cons hi', List.dropWhile_cons_of_pos (by simp [hx]), List.takeWhile_cons_of_pos (by simp [hx]), List.map_cons]
      rw [List.append_assoc] at h
      refine Ev.step (fun k => ?_) h
      simp only [spec_TimersDue.l0, hw, rdT L i hi']; rw [if_pos (by omega), if_pos (by omega), if_pos hx, if_pos (by omega)]
    · refine Ev.step (f := fun _ => some _) (fun k => ?_) (Ev.now _)
      simp only [spec_TimersDue.l0, rdT L i hi', Option.bind_some, Int.toNat_natCast]; rw [if_pos (by omega), if_pos (by omega), if_neg hx, if_pos (by omega), if_pos (by simp; omega), List.drop_eq_getElem_cons hi', List.dropWhile_cons_of_neg (by simp [hx]), List.takeWhile_cons_of_neg (by simp [hx])]; simp
/-! ### well-formed timers -/
def Vt (L : List S27) : Prop := L.Pairwise lessT ∧ L.Pairwise (fun x y => x.f1 ≠ y.f1) ∧ (∀ x ∈ L, okT x = true) ∧ L.length ≤ 20
theorem vt_chk {L : List S27} (h : Vt L) : chk L L.length 0 = true := by
  have hg : ∀ d i, i + d = L.length → chk L d i = true := by
    intro d
    induction d with
    | zero => intro i _; show decide (L.length ≤ 20) = true; exact decide_eq_true h.2.2.2
    | succ d ih =>
      intro i hi
      have hi' : i < L.length := by omega
      have gi : L.getD i z27 = L[i] := by simp [List.getD_eq_getElem?_getD, hi']
      have g : good L i := by
        refine ⟨by rw [gi]; exact h.2.2.1 _ (List.getElem_mem hi'), fun h0 => ?_, fun j hj => ?_⟩
        · have gp : L.getD (i - 1) z27 = L[i - 1] := by simp [List.getD_eq_getElem?_getD, show i - 1 < L.length by omega]
          rw [gi, gp]
          exact (List.pairwise_iff_getElem.1 h.1) (i - 1) i (by omega) hi' (by omega)
        · have gj : L.getD j z27 = L[j] := by simp [List.getD_eq_getElem?_getD, show j < L.length by omega]
          rw [gi, gj]
          exact (List.pairwise_iff_getElem.1 h.2.1) j i (by omega) hi' hj
      rw [chk_go g]; exact ih (i + 1) (by omega)
  exact hg L.length 0 (by omega)
theorem ins_vt (F : List S27) (a b : Int) (h1 : F.Pairwise lessT) (h2 : F.Pairwise (fun x y => x.f1 ≠ y.f1)) (h3 : ∀ x ∈ F, okT x = true) (h4 : F.length < 20) (h5 : ∀ x ∈ F, x.f1 ≠ b) (ho : okT (⟨a, b⟩ : S27) = true) : Vt (ins F ⟨a, b⟩) := by
  have hp : (ins F ⟨a, b⟩).Perm (F ++ [⟨a, b⟩]) := by
    rw [← srt_ins F ⟨a, b⟩ h1]; exact List.mergeSort_perm _ _
  have hids : (ins F ⟨a, b⟩).Pairwise (fun x y => x.f1 ≠ y.f1) := by
    refine (hp.pairwise_iff (fun {x y} q e => q e.symm)).2 ?_
    refine List.pairwise_append.2 ⟨h2, List.pairwise_singleton _ _, fun x hx y hy => ?_⟩
    rw [List.mem_singleton] at hy
    rw [hy]; exact h5 x hx
  refine ⟨?_, hids, fun x hx => ?_, ?_⟩
  · refine (List.Pairwise.and (ins_sorted F ⟨a, b⟩ h1) hids).imp (fun {x y} q => ?_)
    have q1 := (leB_iff x y).1 q.1
    have q2 := q.2
    unfold lessT at *; omega
  · rcases List.mem_append.1 (hp.mem_iff.1 hx) with e | e
    · exact h3 x e
    · rw [List.mem_singleton] at e; rw [e]; exact ho
  · rw [hp.length_eq, List.length_append, List.length_singleton]; omega
theorem put_ok (L : List S27) (h : Vt L) (a b : Int) (ho : okT (⟨a, b⟩ : S27) = true) (F : List S27) (hF : L.filter (fun x => !decide (x.f1 = b)) = F) (h20 : F.length < 20) : Ev (fun k => spec_TimerPut.f k L a b) (ins F ⟨a, b⟩, 0) ∧ Ev (fun k => impl_TimerPut.f k L a b) (ins F ⟨a, b⟩, 0) ∧ Vt (ins F ⟨a, b⟩) := by
  have hc := vt_chk h
  have hLl := h.2.2.2
  have hL : L.length ≤ 1048576 := by omega
  have h1 : ¬ L.length > 4096 := by omega
  have hf := fault_ev L
  have ht := timers_ev L hL
  rw [if_neg h1, hc, if_pos rfl] at hf
  rw [hc] at ht
  have h1t := timers_ev [(⟨a, b⟩ : S27)] (by simp)
  rw [chk_one, ho] at h1t
  have hok := timerOK_eq (⟨a, b⟩ : S27)
  rw [ho] at hok
  have hd := drop_ev b L hL
  have hdel := del_filter b L h.2.1
  have hcl : impl_Timer_31.f L = some L := by unfold impl_Timer_31.f; rw [if_pos (by omega)]
  rw [hF] at hd hdel
  have hFs : F.Pairwise lessT := by rw [← hF]; exact h.1.filter _
  have hF2 : F.Pairwise (fun x y => x.f1 ≠ y.f1) := by rw [← hF]; exact h.2.1.filter _
  have hFm : ∀ x ∈ F, x ∈ L ∧ x.f1 ≠ b := fun x hx => by
    rw [← hF] at hx
    have := List.mem_filter.1 hx
    exact ⟨this.1, by simpa using this.2⟩
  have hp := put_l0 F (by omega) a b F.length 0 (by omega)
  rw [List.take_zero, List.drop_zero, List.nil_append] at hp
  have hs := srt_ins F ⟨a, b⟩ hFs
  refine ⟨?_, ?_, ins_vt F a b hFs hF2 (fun x hx => h.2.2.1 x (hFm x hx).1) h20 (fun x hx => (hFm x hx).2) ho⟩
  · refine Ev.congr (fun k => by unfold spec_TimerPut.f; rw [if_neg (by omega)]) (Ev.bind ht (Ev.congr (fun k => by rw [if_pos rfl]) (Ev.bind h1t ?_)))
    refine Ev.step (f := fun k => (spec_l05Drop.f k L b).bind fun t162 => (if (t162.length : Int) = 20 then ((some (([] : List S27) : List S27)).bind fun y165 => (if y165.length + L.length < 8796093022208 then (some ((y165 ++ L), 7)) else (none))) else (spec_TimerPut.l0 k t162 0 a b))) (fun k => ?_) (Ev.bind hd (Ev.congr (fun k => by rw [if_neg (by omega)]; rfl) hp))
    simp only [spec_TimerPut.j0]
    rw [if_neg (by simp)]
  · unfold impl_TimerPut.f
    exact Ev.bind hf (Ev.congr (f := fun _ => some (ins F ⟨a, b⟩, 0)) (fun k => by rw [if_pos (by decide), hok, Option.bind_some, if_pos rfl, hcl, Option.bind_some, hdel, Option.bind_some, if_neg (by omega), if_pos (by omega), hs]) (Ev.now _))
theorem due_ok (L : List S27) (h : Vt L) (a : Int) : Ev (fun k => spec_TimersDue.f k L a) (L.dropWhile (fun x => decide (x.f0 ≤ a)), (L.takeWhile (fun x => decide (x.f0 ≤ a))).map (·.f1), 0) ∧ Ev (fun k => impl_TimersDue.f k L a) (L.dropWhile (fun x => decide (x.f0 ≤ a)), (L.takeWhile (fun x => decide (x.f0 ≤ a))).map (·.f1), 0) := by
  have hc := vt_chk h
  have hLl := h.2.2.2
  have hL : L.length ≤ 1048576 := by omega
  have h1 : ¬ L.length > 4096 := by omega
  have hf := fault_ev L
  have ht := timers_ev L hL
  rw [if_neg h1, hc, if_pos rfl] at hf
  rw [hc] at ht
  have hs := due_filter a L (chk_sorted hc)
  have hi := dueI_l0 a L hL L.length 0 [] [] (by omega) (by simp) (by simp)
  have hp := specd_l0 a L hL L.length 0 [] (by omega) (by simp)
  rw [List.drop_zero, List.nil_append] at hi hp
  rw [List.nil_append, hs.1, hs.2] at hi
  refine ⟨Ev.congr (fun k => by unfold spec_TimersDue.f; rw [if_neg (by omega)]) (Ev.bind ht (Ev.congr (fun k => by rw [if_pos rfl]; rfl) hp)), ?_⟩
  unfold impl_TimersDue.f
  exact Ev.bind hf (Ev.congr (fun k => by rw [if_pos (by decide)]; rfl) hi)
theorem dropi_ok (L : List S27) (h : Vt L) (id : Int) : Ev (fun k => impl_TimerDrop.f k L id) (L.filter (fun x => !decide (x.f1 = id)), if idx id L 0 < 0 then 5 else 0) := by
  have hc := vt_chk h
  have hLl := h.2.2.2
  have h1 : ¬ L.length > 4096 := by omega
  have hf := fault_ev L
  rw [if_neg h1, hc, if_pos rfl] at hf
  have hcl : impl_Timer_31.f L = some L := by unfold impl_Timer_31.f; rw [if_pos (by omega)]
  unfold impl_TimerDrop.f
  refine Ev.bind hf (Ev.congr (f := fun _ => some _) (fun k => ?_) (Ev.now _))
  rw [if_pos (by decide), hcl, Option.bind_some]
  rcases drop_eq id L h.2.1 0 with ⟨e1, e2⟩ | ⟨n, hn, e1, e2⟩
  · rw [if_pos (by omega), if_pos (by omega), e2]
  · rw [if_neg (by omega), if_neg (by omega), e2, show (idx id L 0).toNat = n by omega]
/-! ### drawn timers -/
theorem ins_length (F : List S27) (t : S27) : (ins F t).length = F.length + 1 := by
  have hsplit : F.takeWhile (fun x => ltOf ordv x t) ++ F.dropWhile (fun x => ltOf ordv x t) = F := List.takeWhile_append_dropWhile
  have := congrArg List.length hsplit
  rw [List.length_append] at this
  unfold ins
  rw [List.length_append, List.length_append, List.length_singleton]; omega
theorem mem_ins {F : List S27} {t x : S27} (h : x ∈ ins F t) : x ∈ F ∨ x = t := by
  have hsplit : F.takeWhile (fun x => ltOf ordv x t) ++ F.dropWhile (fun x => ltOf ordv x t) = F := List.takeWhile_append_dropWhile
  unfold ins at h
  rcases List.mem_append.1 h with e | e
  · exact Or.inl (by rw [← hsplit]; exact List.mem_append_left _ e)
  · rcases List.mem_append.1 e with e2 | e2
    · exact Or.inr (List.mem_singleton.1 e2)
    · exact Or.inl (by rw [← hsplit]; exact List.mem_append_right _ e2)
theorem drawn_l0 {l : List Int} (hb : Bytes l) (d : Nat) : ∀ (L : List S27) (at_ sd : Int), Vt L → (∀ x ∈ L, x.f1 ≤ 5) → L.length + d ≤ 7 → (0 ≤ at_ ∧ at_ + 2 * d ≤ 1000000) → (0 ≤ sd ∧ sd < 2147483648) → ∃ (r : List S27) (a q : Int), Ev (fun k => spec_l00Src_timers.l0 k L (d : Int) l at_ sd) (r, a, q) ∧ Vt r ∧ (∀ x ∈ r, x.f1 ≤ 5) ∧ r.length ≤ 7 := by
  induction d with
  | zero =>
    intro L at_ sd hV h5 hl _ _
    refine ⟨L, at_, sd, Ev.step (f := fun _ => some _) (fun k => ?_) (Ev.now _), hV, h5, by omega⟩
    simp only [spec_l00Src_timers.l0]; rw [if_neg (by omega)]
  | succ d ih =>
    intro L at_ sd hV h5 hl ha hs
    obtain ⟨r1, a1, q1, e1, b1, c1, d1⟩ := src_next hb at_ sd 9 (by omega) hs (by omega)
    obtain ⟨r2, a2, q2, e2, b2, c2, d2⟩ := src_next hb a1 q1 6 (by omega) d1 (by omega)
    have hfl : (L.filter (fun x => !decide (x.f1 = r2))).length ≤ L.length := List.length_filter_le _ _
    obtain ⟨p1, p2, p3⟩ := put_ok L hV r1 r2 (by unfold okT; exact decide_eq_true (by simp only; omega)) _ rfl (by omega)
    have hil := ins_length (L.filter (fun x => !decide (x.f1 = r2))) ⟨r1, r2⟩
    have him : ∀ x ∈ ins (L.filter (fun x => !decide (x.f1 = r2))) ⟨r1, r2⟩, x.f1 ≤ 5 := fun x hx => by
      rcases mem_ins hx with e | e
      · exact h5 x (List.mem_filter.1 e).1
      · rw [e]; simp only; omega
    obtain ⟨r, a, q, i1, i2, i3, i4⟩ := ih _ a2 q2 p3 him (by omega) (by omega) d2
    refine ⟨r, a, q, ?_, i2, i3, i4⟩
    have hw : wrap64 (((d + 1 : Nat) : Int) - 1) = (d : Int) := by rw [wrap64_id (by omega) (by omega)]; omega
    refine Ev.step (f := fun k => (spec_TimerPut.f k L r1 r2).bind fun bt193 => (spec_l00Src_timers.l0 k bt193.1 (d : Int) l a2 q2)) (fun k => ?_) (Ev.bind p1 i1)
    simp only [spec_l00Src_timers.l0]
    rw [if_pos (by omega), e1, Option.bind_some, e2, Option.bind_some, hw]
theorem vt_nil : Vt [] := ⟨List.Pairwise.nil, List.Pairwise.nil, fun x hx => (by cases hx), by simp⟩
theorem drawn_ev {l : List Int} (hb : Bytes l) : ∃ L : List S27, Ev (fun k => spec_TimersOf.f k l) L ∧ Vt L ∧ (∀ x ∈ L, x.f1 ≤ 5) ∧ L.length ≤ 7 := by
  obtain ⟨r1, a1, q1, e1, b1, c1, d1⟩ := src_next hb 0 ((l.length : Int) % 1000) 8 (by omega) (by omega) (by omega)
  obtain ⟨n, rfl⟩ : ∃ n : Nat, r1 = n := ⟨r1.toNat, by omega⟩
  obtain ⟨r, a, q, i1, i2, i3, i4⟩ := drawn_l0 hb n [] a1 q1 vt_nil (fun x hx => by cases hx) (by simp; omega) (by omega) d1
  refine ⟨r, ?_, i2, i3, i4⟩
  refine Ev.congr (fun k => by unfold spec_TimersOf.f spec_l00Source.f spec_l00Src_timers.f; rw [Option.bind_some]; simp only []; rw [e1, Option.bind_some]) (Ev.bind i1 (Ev.now _))
-- SAYS: FnTimers: a timer put stands among the drawn ones, is due at its own time and not before, moves when it is put anew, and is gone when it is dropped.
-- USES: Bytes Src TimersC Drop Put DueC TimersV
theorem sameT_l0 (l : List S27) (hl : l.length ≤ 1048576) (d : Nat) : ∀ (i : Nat), i + d = l.length → Ev (fun k => laws_sameTimers.l0 k l l (i : Int)) true := by
  induction d with
  | zero =>
    intro i hi
    refine Ev.step (f := fun _ => some true) (fun k => ?_) (Ev.now _)
    simp only [laws_sameTimers.l0]; rw [if_neg (by omega)]
  | succ d ih =>
    intro i hi
    have hw : wrap64 ((i : Int) + 1) = ((i + 1 : Nat) : Int) := by rw [wrap64_id (by omega) (by omega)]; omega
    refine Ev.step (f := fun k => laws_sameTimers.l0 k l l ((i + 1 : Nat) : Int)) (fun k => ?_) (ih (i + 1) (by omega))
    simp only [laws_sameTimers.l0, hw]; rw [if_pos (by omega), if_pos (by omega), if_pos (by omega), if_neg (by simp)]
theorem sameT_ev (l : List S27) (hl : l.length ≤ 1048576) : Ev (fun k => laws_sameTimers.f k l l) true := by
  refine Ev.congr (f := fun k => laws_sameTimers.l0 k l l ((0 : Nat) : Int)) (fun k => ?_) (sameT_l0 l hl l.length 0 (by omega))
  unfold laws_sameTimers.f
  rw [if_pos rfl]; rfl
theorem sameI_l0 (l : List Int) (hl : l.length ≤ 1048576) (d : Nat) : ∀ (i : Nat), i + d = l.length → Ev (fun k => laws_sameInts.l0 k l l (i : Int)) true := by
  induction d with
  | zero =>
    intro i hi
    refine Ev.step (f := fun _ => some true) (fun k => ?_) (Ev.now _)
    simp only [laws_sameInts.l0]; rw [if_neg (by omega)]
  | succ d ih =>
    intro i hi
    have hw : wrap64 ((i : Int) + 1) = ((i + 1 : Nat) : Int) := by rw [wrap64_id (by omega) (by omega)]; omega
    refine Ev.step (f := fun k => laws_sameInts.l0 k l l ((i + 1 : Nat) : Int)) (fun k => ?_) (ih (i + 1) (by omega))
    simp only [laws_sameInts.l0, hw]; rw [if_pos (by omega), if_pos (by omega), if_pos (by omega), if_pos trivial]
theorem sameI_ev (l : List Int) (hl : l.length ≤ 1048576) : Ev (fun k => laws_sameInts.f k l l) true := by
  refine Ev.congr (f := fun k => laws_sameInts.l0 k l l ((0 : Nat) : Int)) (fun k => ?_) (sameI_l0 l hl l.length 0 (by omega))
  unfold laws_sameInts.f
  rw [if_pos rfl]; rfl
theorem rdI (l : List Int) (i : Nat) (h : i < l.length) : rd l (i : Int) = l[i] := by simp [rd, List.getD_eq_getElem?_getD, h]
theorem fin_l2 (l : List Int) (hl : l.length ≤ 1048576) (h9 : ∀ x ∈ l, x ≠ 9) (c : Int) (d : Nat) : ∀ (i : Nat), i + d = l.length → Ev (fun k => laws_FnTimers.l2 k l c (i : Int)) (c == 1) := by
  induction d with
  | zero =>
    intro i hi
    refine Ev.step (f := fun _ => some _) (fun k => ?_) (Ev.now _)
    simp only [laws_FnTimers.l2]; rw [if_neg (by omega)]
  | succ d ih =>
    intro i hi
    have hi' : i < l.length := by omega
    have hw : wrap64 ((i : Int) + 1) = ((i + 1 : Nat) : Int) := by rw [wrap64_id (by omega) (by omega)]; omega
    refine Ev.step (fun k => ?_) (ih (i + 1) (by omega))
    simp only [laws_FnTimers.l2, hw, rdI l i hi']; rw [if_pos (by omega), if_pos (by omega), if_neg (h9 _ (List.getElem_mem hi'))]
theorem fin_l1 (l m : List Int) (hl : l.length ≤ 1048576) (hm : m.length ≤ 1048576) (h9 : ∀ x ∈ l, x ≠ 9) (m9 : ∀ x ∈ m, x ≠ 9) (c : Int) (d : Nat) : ∀ (i : Nat), i + d = l.length → Ev (fun k => laws_FnTimers.l1 k l m c (i : Int)) (c == 1) := by
  induction d with
  | zero =>
    intro i hi
    refine Ev.step (fun k => ?_) (fin_l2 m hm m9 c m.length 0 (by omega))
    simp only [laws_FnTimers.l1]; rw [if_neg (by omega)]; rfl
  | succ d ih =>
    intro i hi
    have hi' : i < l.length := by omega
    have hw : wrap64 ((i : Int) + 1) = ((i + 1 : Nat) : Int) := by rw [wrap64_id (by omega) (by omega)]; omega
    refine Ev.step (fun k => ?_) (ih (i + 1) (by omega))
    simp only [laws_FnTimers.l1, hw, rdI l i hi']; rw [if_pos (by omega), if_pos (by omega), if_neg (h9 _ (List.getElem_mem hi'))]
theorem fin_l0 (g l m : List Int) (hg : g.length ≤ 1048576) (hl : l.length ≤ 1048576) (hm : m.length ≤ 1048576) (h9 : ∀ x ∈ l, x ≠ 9) (m9 : ∀ x ∈ m, x ≠ 9) (d : Nat) : ∀ (i c : Nat), i + d = g.length → c ≤ i → Ev (fun k => laws_FnTimers.l0 k g l m (c : Int) (i : Int)) (((c + (g.drop i).count 9 : Nat) : Int) == 1) := by
  induction d with
  | zero =>
    intro i c hi hc
    rw [List.drop_eq_nil_of_le (by omega), List.count_nil, Nat.add_zero]
    refine Ev.step (fun k => ?_) (fin_l1 l m hl hm h9 m9 (c : Int) l.length 0 (by omega))
    simp only [laws_FnTimers.l0]; rw [if_neg (by omega)]; rfl
  | succ d ih =>
    intro i c hi hc
    have hi' : i < g.length := by omega
    have hw : wrap64 ((i : Int) + 1) = ((i + 1 : Nat) : Int) := by rw [wrap64_id (by omega) (by omega)]; omega
    have hwc : wrap64 ((c : Int) + 1) = ((c + 1 : Nat) : Int) := by rw [wrap64_id (by omega) (by omega)]; omega
    rw [List.drop_eq_getElem_cons hi', List.count_cons]
    by_cases hx : g[i] = 9
    · rw [show ((if g[i] == 9 then 1 else 0 : Nat)) = 1 by rw [hx]; rfl, show c + ((g.drop (i + 1)).count 9 + 1) = (c + 1) + (g.drop (i + 1)).count 9 by omega]
      refine Ev.step (fun k => ?_) (ih (i + 1) (c + 1) (by omega) (by omega))
      simp only [laws_FnTimers.l0, hw, hwc, rdI g i hi']; rw [if_pos (by omega), if_pos (by omega), if_pos hx]
    · rw [show ((if g[i] == 9 then 1 else 0 : Nat)) = 0 by rw [beq_eq_false_iff_ne.2 hx]; rfl, Nat.add_zero]
      refine Ev.step (fun k => ?_) (ih (i + 1) c (by omega) (by omega))
      simp only [laws_FnTimers.l0, hw, rdI g i hi']; rw [if_pos (by omega), if_pos (by omega), if_neg hx]
theorem ins_filter (L : List S27) (t : S27) (h : ∀ x ∈ L, x.f1 ≠ t.f1) : (ins L t).filter (fun x => !decide (x.f1 = t.f1)) = L := by
  have hsplit : L.takeWhile (fun x => ltOf ordv x t) ++ L.dropWhile (fun x => ltOf ordv x t) = L := List.takeWhile_append_dropWhile
  have hs : ∀ l : List S27, (∀ x ∈ l, x.f1 ≠ t.f1) → l.filter (fun x => !decide (x.f1 = t.f1)) = l := fun l q => List.filter_eq_self.2 (fun x hx => by simpa using q x hx)
  unfold ins
  rw [List.filter_append, List.filter_append, hs _ (fun x hx => h x (by rw [← hsplit]; exact List.mem_append_left _ hx)), List.filter_cons_of_neg (by simp), List.filter_nil, List.nil_append, hs _ (fun x hx => h x (by rw [← hsplit]; exact List.mem_append_right _ hx)), hsplit]
theorem ins_count (L : List S27) (t : S27) (h : ∀ x ∈ L, x.f1 ≠ t.f1) (hV : (ins L t).Pairwise (fun x y => x.f0 ≤ y.f0)) : (((ins L t).takeWhile (fun x => decide (x.f0 ≤ t.f0))).map (·.f1)).count t.f1 = 1 := by
  rw [← (due_filter t.f0 (ins L t) hV).1]
  have hsplit : L.takeWhile (fun x => ltOf ordv x t) ++ L.dropWhile (fun x => ltOf ordv x t) = L := List.takeWhile_append_dropWhile
  have hz : ∀ l : List S27, (∀ x ∈ l, x.f1 ≠ t.f1) → ((l.filter (fun x => decide (x.f0 ≤ t.f0))).map (·.f1)).count t.f1 = 0 := fun l q => by
    rw [List.count_eq_zero]
    intro hm
    obtain ⟨x, hx, e⟩ := List.mem_map.1 hm
    exact q x (List.mem_filter.1 hx).1 e
  unfold ins
  rw [List.filter_append, List.filter_append, List.map_append, List.map_append, List.count_append, List.count_append, hz _ (fun x hx => h x (by rw [← hsplit]; exact List.mem_append_left _ hx)), List.filter_cons_of_pos (by simp), List.filter_nil, hz _ (fun x hx => h x (by rw [← hsplit]; exact List.mem_append_right _ hx))]
  simp
theorem ins_none (L : List S27) (t : S27) (h : ∀ x ∈ L, x.f1 ≠ t.f1) (u : Int) (hu : u < t.f0) : ∀ x ∈ ((ins L t).takeWhile (fun x => decide (x.f0 ≤ u))).map (·.f1), x ≠ t.f1 := by
  intro x hx e
  obtain ⟨y, hy, rfl⟩ := List.mem_map.1 hx
  have h1 : y.f0 ≤ u := by simpa using (List.all_eq_true.1 List.all_takeWhile y hy)
  rcases mem_ins ((List.takeWhile_sublist _).subset hy) with e2 | e2
  · exact h y e2 e
  · rw [e2] at h1; omega
theorem FnTimers : laws_FnTimers.Pure := by
  intro l0 l1 _ _ hb0 _ _ hb1
  have hB0 := bytes_wf hb0
  have hB1 := bytes_wf hb1
  suffices h : Ev (fun k => laws_FnTimers.f k l0 l1) true by
    obtain ⟨K, hK⟩ := h; exact ⟨K, hK K (Nat.le_refl _)⟩
  have big : Ev (fun k => laws_FnTimers.j0 k l0 l1 true) true := Ev.step (f := fun _ => some true) (fun k => by simp only [laws_FnTimers.j0]; rw [if_pos trivial]) (Ev.now _)
  by_cases h0 : (l0.length : Int) > 1048576
  · exact Ev.congr (fun k => by unfold laws_FnTimers.f; rw [if_pos h0]) big
  by_cases h1 : (l1.length : Int) > 1048576
  · exact Ev.congr (fun k => by unfold laws_FnTimers.f; rw [if_neg h0, decide_eq_true h1]) big
  refine Ev.congr (fun k => by unfold laws_FnTimers.f; rw [if_neg h0, decide_eq_false h1]) ?_
  obtain ⟨L, eL, hV, h5, h7⟩ := drawn_ev hB0
  obtain ⟨t, et, ht⟩ := at_ev hB1 (by omega) 0 20 (by omega) (by omega)
  have et' : laws_at.f l1 0 20 = some (t : Int) := et
  have h9 : ∀ x ∈ L, x.f1 ≠ (9 : Int) := fun x hx => by have := h5 x hx; omega
  have f9 : L.filter (fun x => !decide (x.f1 = (9 : Int))) = L := List.filter_eq_self.2 (fun x hx => by simpa using h9 x hx)
  obtain ⟨p1, p2, p3⟩ := put_ok L hV (t : Int) 9 (by unfold okT; exact decide_eq_true (by simp only; omega)) L f9 (by omega)
  have f8 : (ins L ⟨(t : Int), 9⟩).filter (fun x => !decide (x.f1 = (9 : Int))) = L := ins_filter L ⟨(t : Int), 9⟩ h9
  obtain ⟨_, q2, q3⟩ := put_ok (ins L ⟨(t : Int), 9⟩) p3 ((t : Int) + 5) 9 (by unfold okT; exact decide_eq_true (by simp only; omega)) L f8 (by omega)
  have w5 : wrap64 ((t : Int) + 5) = (t : Int) + 5 := wrap64_id (by omega) (by omega)
  have w4 : wrap64 ((t : Int) + 4) = (t : Int) + 4 := wrap64_id (by omega) (by omega)
  have w1 : wrap64 ((t : Int) - 1) = (t : Int) - 1 := wrap64_id (by omega) (by omega)
  obtain ⟨d1, d2⟩ := due_ok (ins L ⟨(t : Int), 9⟩) p3 (t : Int)
  obtain ⟨_, e2⟩ := due_ok (ins L ⟨(t : Int), 9⟩) p3 ((t : Int) - 1)
  obtain ⟨_, m2⟩ := due_ok (ins L ⟨(t : Int) + 5, 9⟩) q3 ((t : Int) + 4)
  have g1 := dropi_ok (ins L ⟨(t : Int), 9⟩) p3 9
  have g2 := dropi_ok L hV 9
  rw [f8] at g1
  rw [f9] at g2
  have x1 : ¬ idx 9 (ins L ⟨(t : Int), 9⟩) 0 < 0 := by
    have := (idx_nn 9 (ins L ⟨(t : Int), 9⟩) 0 (Int.le_refl 0)).2 ⟨⟨(t : Int), 9⟩, by unfold ins; simp, rfl⟩
    omega
  have x2 : idx 9 L 0 < 0 := by
    apply Classical.byContradiction
    intro q
    obtain ⟨x, hx, e⟩ := (idx_nn 9 L 0 (Int.le_refl 0)).1 (by omega)
    exact h9 x hx e
  rw [if_neg x1] at g1
  rw [if_pos x2] at g2
  have k1 := ins_length L ⟨(t : Int), 9⟩
  have k2 := ins_length L ⟨(t : Int) + 5, 9⟩
  have cnt := ins_count L ⟨(t : Int), 9⟩ h9 (chk_sorted (vt_chk p3))
  have n1 := ins_none L ⟨(t : Int), 9⟩ h9 ((t : Int) - 1) (by simp only; omega)
  have n2 := ins_none L ⟨(t : Int) + 5, 9⟩ h9 ((t : Int) + 4) (by simp only; omega)
  have tw : ∀ (M : List S27) (u : Int), ((M.takeWhile (fun x => decide (x.f0 ≤ u))).map (·.f1)).length + (M.dropWhile (fun x => decide (x.f0 ≤ u))).length = M.length := fun M u => by
    rw [List.length_map, ← List.length_append, List.takeWhile_append_dropWhile]
  have s1 := tw (ins L ⟨(t : Int), 9⟩) (t : Int)
  have s2 := tw (ins L ⟨(t : Int), 9⟩) ((t : Int) - 1)
  have s3 := tw (ins L ⟨(t : Int) + 5, 9⟩) ((t : Int) + 4)
  simp only at cnt n1 n2
  generalize ins L ⟨(t : Int), 9⟩ = P at *
  generalize ins L ⟨(t : Int) + 5, 9⟩ = Q at *
  generalize hI : (P.takeWhile (fun x => decide (x.f0 ≤ (t : Int)))).map (·.f1) = I at *
  generalize hS : P.dropWhile (fun x => decide (x.f0 ≤ (t : Int))) = S at *
  generalize (P.takeWhile (fun x => decide (x.f0 ≤ (t : Int) - 1))).map (·.f1) = I1 at *
  generalize (Q.takeWhile (fun x => decide (x.f0 ≤ (t : Int) + 4))).map (·.f1) = I2 at *
  have fin := fin_l0 I I1 I2 (by omega) (by omega) (by omega) n1 n2 I.length 0 0 (by omega) (Nat.le_refl _)
  rw [List.drop_zero, cnt] at fin
  have tA : Ev (fun _ => laws_at.f l1 0 20) (t : Int) := Ev.congr (f := fun _ => some (t : Int)) (fun k => et') (Ev.now _)
  have q2' : Ev (fun k => impl_TimerPut.f k P (wrap64 ((t : Int) + 5)) 9) (Q, 0) := by rw [w5]; exact q2
  rw [← w1] at e2
  rw [← w4] at m2
  refine Ev.step (fun k => by simp only [laws_FnTimers.j0]; rw [if_neg (by decide)]) ?_
  refine Ev.bind eL ?_
  refine Ev.bind tA ?_
  refine Ev.bind p2 ?_
  refine Ev.bind p1 ?_
  refine Ev.bind q2' ?_
  refine Ev.bind d2 ?_
  refine Ev.bind d1 ?_
  refine Ev.bind e2 ?_
  refine Ev.bind m2 ?_
  refine Ev.bind g1 ?_
  refine Ev.bind g2 ?_
  simp only [if_true]
  refine Ev.bind (sameT_ev P (by omega)) ?_
  simp only [if_true]
  refine Ev.congr (fun k => by rw [if_pos (by omega)]) ?_
  refine Ev.bind (sameT_ev S (by omega)) ?_
  simp only [if_true]
  refine Ev.bind (sameI_ev I (by omega)) ?_
  simp only [if_true]
  refine Ev.bind (sameT_ev L (by omega)) ?_
  simp only [if_true]
  have hlen : (wrap64 ((S.length : Int) + (I.length : Int)) != (P.length : Int)) = false := by
    rw [wrap64_id (by omega) (by omega), show (S.length : Int) + (I.length : Int) = (P.length : Int) by omega]; exact bne_self_eq_false _
  refine Ev.congr (fun k => by rw [hlen]) ?_
  refine Ev.step (fun k => by simp only [laws_FnTimers.j1]; rw [if_neg (by decide)]; rfl) fin

end Go.Proofs.Ytnofpkbihecabaa.Pure
