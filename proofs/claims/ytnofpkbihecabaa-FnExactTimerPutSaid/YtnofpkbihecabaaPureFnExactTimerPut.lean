/- TimerPut: both read the same timers; what the program sorts is what the reference lays in its place, for the others stand in their order and no two are alike. -/
import Derived.Test.YtnofpkbihecabaaPTqx7
import Derived.Test.YtnofpkbihecabaaBase
set_option linter.unusedSimpArgs false
set_option linter.unusedVariables false
namespace Go.Proofs.Ytnofpkbihecabaa.Pure
open Go.RowKit Go.Proofs.Ytnofpkbihecabaa.PTq Go.Proofs.YtnofpkbihecabaaW.PrintWords Go.Proofs.YtnofpkbihecabaaW.PrintLast Go.Proofs.YtnofpkbihecabaaW.PrintMore Base

/-! ### rows of timers -/
theorem rdT (l : List S27) (i : Nat) (h : i < l.length) : rd_T27 l (i : Int) = l[i] := by
  simp [rd_T27, List.getD_eq_getElem?_getD, h]
theorem rdS (l : List S43) (i : Nat) (h : i < l.length) : rd_T43 l (i : Int) = l[i] := by
  simp [rd_T43, List.getD_eq_getElem?_getD, h]
def tt (l : List S43) : List S27 := l.map fun z => ⟨z.f0, z.f1⟩
theorem tt_length (l : List S43) : (tt l).length = l.length := by simp [tt]
theorem toT_l0 (l : List S43) (hl : l.length ≤ 1048576) (d : Nat) : ∀ (i : Nat) (x : List S27), i + d = l.length → x.length = l.length → (∀ j : Nat, j < i → x[j]? = (tt l)[j]?) → Ev (fun k => laws_toTimerS.l0 k l x (i : Int)) (tt l) := by
  induction d with
  | zero =>
    intro i x hi hx hj
    have e : x = tt l := by
      apply List.ext_getElem?
      intro j
      by_cases h : j < i
      · exact hj j h
      · rw [List.getElem?_eq_none (by omega), List.getElem?_eq_none (by rw [tt_length]; omega)]
    refine Ev.step (f := fun _ => some (tt l)) (fun k => ?_) (Ev.now _)
    simp only [laws_toTimerS.l0]; rw [if_neg (by omega), e]
  | succ d ih =>
    intro i x hi hx hj
    have hw : wrap64 ((i : Int) + 1) = ((i + 1 : Nat) : Int) := by rw [wrap64_id (by omega) (by omega)]; omega
    have h := ih (i + 1) (x.set i ⟨(l[i]'(by omega)).f0, (l[i]'(by omega)).f1⟩) (by omega) (by simpa using hx) (fun j hji => ?_)
    · refine Ev.step (fun k => ?_) h
      simp only [laws_toTimerS.l0, hw, laws_toTimer.f]; rw [if_pos (by omega), if_pos (by omega), Option.bind_some, if_pos (by omega), rdS l i (by omega)]; rfl
    · by_cases hq : j = i
      · subst hq; rw [List.getElem?_set_self (by omega)]; simp [tt, show j < l.length by omega]
      · rw [List.getElem?_set_ne (by omega)]; exact hj j (by omega)
theorem toT_ev (l : List S43) (hl : l.length ≤ 1048576) : Ev (fun k => laws_toTimerS.f k l) (tt l) := by
  refine Ev.congr (fun k => ?_) (toT_l0 l hl l.length 0 (List.replicate l.length z27) (by omega) (by simp) (fun j hj => by omega))
  unfold laws_toTimerS.f
  rw [if_pos (by omega), Int.toNat_natCast, if_pos (by omega)]; rfl
theorem eqT_l0 (l : List S27) (hl : l.length ≤ 1048576) (d : Nat) : ∀ (i : Nat), i + d = l.length → Ev (fun k => laws_eqTimerS.l0 k l l (i : Int)) true := by
  induction d with
  | zero =>
    intro i hi
    refine Ev.step (f := fun _ => some true) (fun k => ?_) (Ev.now _)
    simp only [laws_eqTimerS.l0]; rw [if_neg (by omega)]
  | succ d ih =>
    intro i hi
    have hw : wrap64 ((i : Int) + 1) = ((i + 1 : Nat) : Int) := by rw [wrap64_id (by omega) (by omega)]; omega
    refine Ev.step (f := fun k => laws_eqTimerS.l0 k l l ((i + 1 : Nat) : Int)) (fun k => ?_) (ih (i + 1) (by omega))
    simp only [laws_eqTimerS.l0, hw, laws_eqTimer.f]; rw [if_pos (by omega), if_pos (by omega), if_pos (by omega), if_pos trivial, if_pos trivial, Option.bind_some, if_pos rfl]
theorem eqT_ev (l : List S27) (hl : l.length ≤ 1048576) : Ev (fun k => laws_eqTimerS.f k l l) true := by
  refine Ev.congr (f := fun k => laws_eqTimerS.l0 k l l ((0 : Nat) : Int)) (fun k => ?_) (eqT_l0 l hl l.length 0 (by omega))
  unfold laws_eqTimerS.f
  rw [if_pos rfl]; rfl
/-! ### the marks -/
def marksT (n : Nat) : List S27 := (List.range n).map fun (j : Nat) => ⟨1 + 2 * (j : Int), 2 + 2 * (j : Int)⟩
theorem marksT_length (n : Nat) : (marksT n).length = n := by simp [marksT]
theorem marksT_at (n i : Nat) (h : i < n) : (marksT n)[i]? = some ⟨1 + 2 * (i : Int), 2 + 2 * (i : Int)⟩ := by
  simp [marksT, h]
theorem markT_l0 (d : Nat) : ∀ (i : Nat) (x : List S27), i + d = x.length → x.length ≤ 1000000000 → (∀ j : Nat, j < i → x[j]? = some ⟨1 + 2 * (j : Int), 2 + 2 * (j : Int)⟩) → Ev (fun k => laws_markTimerS.l0 k x (1 + 2 * (i : Int)) (i : Int)) (1 + 2 * (x.length : Int), marksT x.length) := by
  induction d with
  | zero =>
    intro i x hi hn hj
    have e : x = marksT x.length := by
      apply List.ext_getElem?
      intro j
      by_cases h : j < i
      · rw [hj j h, marksT_at _ j (by omega)]
      · rw [List.getElem?_eq_none (by omega), List.getElem?_eq_none (by rw [marksT_length]; omega)]
    refine Ev.step (f := fun _ => some (1 + 2 * (x.length : Int), marksT x.length)) (fun k => ?_) (Ev.now _)
    simp only [laws_markTimerS.l0]; rw [if_neg (by omega), ← e, show (i : Int) = x.length by omega]
  | succ d ih =>
    intro i x hi hn hj
    have w1 : wrap64 ((i : Int) + 1) = ((i + 1 : Nat) : Int) := by rw [wrap64_id (by omega) (by omega)]; omega
    have w2 : wrap64 (1 + 2 * (i : Int) + 1) = 2 + 2 * (i : Int) := by rw [wrap64_id (by omega) (by omega)]; omega
    have w3 : wrap64 (2 + 2 * (i : Int) + 1) = 1 + 2 * ((i + 1 : Nat) : Int) := by rw [wrap64_id (by omega) (by omega)]; omega
    have h := ih (i + 1) (x.set i ⟨1 + 2 * (i : Int), 2 + 2 * (i : Int)⟩) (by simp; omega) (by simpa using hn) (fun j hji => ?_)
    · rw [List.length_set] at h
      refine Ev.step (fun k => ?_) h
      simp only [laws_markTimerS.l0, w1, w2, w3]; rw [if_pos (by omega), if_pos (by omega), Option.bind_some]
      rw [Int.toNat_natCast, rdT x i (by omega)]
      rw [rdT (x.set i ⟨1 + 2 * (i : Int), (x[i]'(by omega)).f1⟩) i (by rw [List.length_set]; omega)]
      simp only [List.getElem_set_self, List.set_set]
    · by_cases hq : j = i
      · subst hq; rw [List.getElem?_set_self (by omega)]
      · rw [List.getElem?_set_ne (by omega)]; exact hj j (by omega)
theorem markT_ev (x : List S27) (hn : x.length ≤ 1000000000) : Ev (fun k => laws_markTimerS.f k x 1) (1 + 2 * (x.length : Int), marksT x.length) :=
  Ev.congr (fun k => rfl) (markT_l0 x.length 0 x (by omega) hn (fun j hj => by omega))
theorem heldT_l0 (n : Nat) (hn : n ≤ 1000000000) (d : Nat) : ∀ (i : Nat), i + d = n → Ev (fun k => laws_heldTimerS.l0 k (marksT n) (1 + 2 * (i : Int)) (i : Int)) (1 + 2 * (n : Int)) := by
  induction d with
  | zero =>
    intro i hi
    refine Ev.step (f := fun _ => some (1 + 2 * (n : Int))) (fun k => ?_) (Ev.now _)
    simp only [laws_heldTimerS.l0, marksT_length]; rw [if_neg (by omega), show (i : Int) = n by omega]
  | succ d ih =>
    intro i hi
    have w1 : wrap64 ((i : Int) + 1) = ((i + 1 : Nat) : Int) := by rw [wrap64_id (by omega) (by omega)]; omega
    have w2 : wrap64 (1 + 2 * (i : Int) + 1) = 2 + 2 * (i : Int) := by rw [wrap64_id (by omega) (by omega)]; omega
    have w3 : wrap64 (2 + 2 * (i : Int) + 1) = 1 + 2 * ((i + 1 : Nat) : Int) := by rw [wrap64_id (by omega) (by omega)]; omega
    have hr : rd_T27 (marksT n) (i : Int) = ⟨1 + 2 * (i : Int), 2 + 2 * (i : Int)⟩ := by rw [rd_T27, Int.toNat_natCast, List.getD_eq_getElem?_getD, marksT_at n i (by omega)]; rfl
    refine Ev.step (fun k => ?_) (ih (i + 1) (by omega))
    simp only [laws_heldTimerS.l0, marksT_length, w1, w2, w3, hr]; rw [if_pos (by omega), if_pos (by omega), if_pos trivial, if_pos trivial]
theorem heldT_ev (n : Nat) (hn : n ≤ 1000000000) : Ev (fun k => laws_heldTimerS.f k (marksT n) 1) (1 + 2 * (n : Int)) :=
  Ev.congr (fun k => rfl) (heldT_l0 n hn n 0 (by omega))
/-! ### are they timers -/
def okT (x : S27) : Bool := decide (0 ≤ x.f0 ∧ x.f0 ≤ 1000000 ∧ 0 ≤ x.f1 ∧ x.f1 ≤ 1000000)
def lessT (x y : S27) : Prop := x.f0 < y.f0 ∨ x.f0 = y.f0 ∧ x.f1 < y.f1
instance (x y : S27) : Decidable (lessT x y) := by unfold lessT; infer_instance
def good (L : List S27) (i : Nat) : Prop := okT (L.getD i z27) = true ∧ (0 < i → lessT (L.getD (i - 1) z27) (L.getD i z27)) ∧ ∀ j, j < i → (L.getD j z27).f1 ≠ (L.getD i z27).f1
open Classical in
noncomputable def chk (L : List S27) : Nat → Nat → Bool
  | 0, _ => decide (L.length ≤ 20)
  | d + 1, i => if good L i then chk L d (i + 1) else false
theorem chk_good (L : List S27) (d : Nat) : ∀ i, chk L d i = true → (∀ j, i ≤ j → j < i + d → good L j) ∧ L.length ≤ 20 := by
  induction d with
  | zero => intro i h; simp [chk] at h; exact ⟨fun j h1 h2 => by omega, h⟩
  | succ d ih =>
    intro i h
    unfold chk at h
    by_cases hg : good L i
    · rw [if_pos hg] at h
      obtain ⟨h1, h2⟩ := ih (i + 1) h
      refine ⟨fun j hj1 hj2 => ?_, h2⟩
      by_cases e : j = i
      · rw [e]; exact hg
      · exact h1 j (by omega) (by omega)
    · rw [if_neg hg] at h; cases h
theorem rdG (L : List S27) (i : Nat) : rd_T27 L (i : Int) = L.getD i z27 := by simp [rd_T27]
theorem within_ok (a : Int) : impl_within.f a 0 1000000 = some (decide (0 ≤ a ∧ a ≤ 1000000)) := by
  unfold impl_within.f
  by_cases h : a ≥ 0
  · rw [if_pos h]; simp [h]
  · rw [if_neg h]; simp; omega
theorem timerOK_eq (x : S27) : impl_timerOK.f x.f0 x.f1 = some (okT x) := by
  unfold impl_timerOK.f
  rw [within_ok, within_ok, Option.bind_some, Option.bind_some]
  by_cases h : 0 ≤ x.f0 ∧ x.f0 ≤ 1000000
  · rw [decide_eq_true h, if_pos rfl]; unfold okT; congr 1; apply decide_eq_decide.2; constructor
    · intro q; exact ⟨h.1, h.2, q.1, q.2⟩
    · intro q; exact ⟨q.2.2.1, q.2.2.2⟩
  · rw [decide_eq_false h, if_neg (by simp)]; unfold okT; congr 1; symm; apply decide_eq_false; intro q; exact h ⟨q.1, q.2.1⟩
theorem or_ev (p q : Int) : Ev (fun k => cmp_Or_int.f k [p, q]) (if p = 0 then q else p) := by
  refine ⟨3, fun k hk => ?_⟩
  obtain ⟨m, rfl⟩ : ∃ m, k = m + 3 := ⟨k - 3, by omega⟩
  have r0 : rd [p, q] 0 = p := rfl
  have r1 : rd [p, q] 1 = q := rfl
  have w1 : wrap64 (0 + 1) = 1 := by rw [wrap64_id (by omega) (by omega)]; rfl
  have w2 : wrap64 (1 + 1) = 2 := by rw [wrap64_id (by omega) (by omega)]; rfl
  unfold cmp_Or_int.f
  simp only [cmp_Or_int.l0, List.length_cons, List.length_nil, r0, r1, w1, w2]
  by_cases hp : p = 0
  · rw [if_pos hp]
    by_cases hq : q = 0
    · simp [hp, hq, cmp_Or_int.l0, r0, r1, w1, w2]
    · simp [hp, hq, cmp_Or_int.l0, r0, r1, w1, w2]
  · rw [if_neg hp]; simp [hp]
def cmpv (a b : Int) : Int := if a < b then -1 else if a > b then 1 else 0
theorem cmp_eq (a b : Int) : cmp_Compare_int.f a b = some (cmpv a b) := by
  unfold cmp_Compare_int.f cmp_isNaN_int.f cmpv
  simp only [Option.bind_some, bne_self_eq_false]
  rw [if_neg (by simp), if_neg (by simp)]
  split
  · rfl
  · split <;> rfl
theorem order_ev (x y : S27) : ∃ v, Ev (fun k => impl_timerOrder.f k x.f0 x.f1 y.f0 y.f1) v ∧ (v ≥ 0 ↔ ¬ lessT x y) := by
  refine ⟨if cmpv x.f0 y.f0 = 0 then cmpv x.f1 y.f1 else cmpv x.f0 y.f0, ?_, ?_⟩
  · refine Ev.congr (fun k => ?_) (Ev.bind (or_ev (cmpv x.f0 y.f0) (cmpv x.f1 y.f1)) (Ev.now _))
    unfold impl_timerOrder.f
    rw [cmp_eq, cmp_eq, Option.bind_some, Option.bind_some]
  · unfold cmpv lessT
    by_cases h1 : x.f0 < y.f0
    · simp [h1]
    · by_cases h2 : x.f0 > y.f0
      · simp [h1, h2]; omega
      · have e : x.f0 = y.f0 := by omega
        by_cases h3 : x.f1 < y.f1
        · simp [e, h3]
        · by_cases h4 : x.f1 > y.f1
          · simp [e, h3, h4]
          · simp [e, h3, h4]
theorem idx_nn (id : Int) (l : List S27) : ∀ i : Int, 0 ≤ i → (idx id l i ≥ 0 ↔ ∃ x ∈ l, x.f1 = id) := by
  induction l with
  | nil => intro i _; simp [idx]
  | cons x xs ih =>
    intro i hi
    simp only [idx]
    by_cases h : x.f1 = id
    · rw [if_pos h]; simp [h]; exact hi
    · rw [if_neg h, ih (i + 1) (by omega)]; simp [h]
theorem new_iff (L : List S27) (i : Nat) (hi : i ≤ L.length) (id : Int) : (∃ x ∈ L.take i, x.f1 = id) ↔ ¬ ∀ j, j < i → (L.getD j z27).f1 ≠ id := by
  constructor
  · rintro ⟨x, hx, e⟩ h
    obtain ⟨j, hj, rfl⟩ := List.mem_iff_getElem.1 hx
    simp at hj
    refine h j (by omega) ?_
    rw [List.getElem_take] at e
    simpa [List.getD_eq_getElem?_getD, show j < L.length by omega] using e
  · intro h
    apply Classical.byContradiction
    intro hn
    apply h
    intro j hj e
    apply hn
    have hjl : j < L.length := by omega
    refine ⟨L[j], ?_, ?_⟩
    · rw [List.mem_iff_getElem]; exact ⟨j, by simp; omega, by rw [List.getElem_take]⟩
    · simpa [List.getD_eq_getElem?_getD, hjl] using e
theorem chk_bad {L : List S27} {d i : Nat} (h : ¬ good L i) : chk L (d + 1) i = false := by unfold chk; rw [if_neg h]
theorem chk_go {L : List S27} {d i : Nat} (h : good L i) : chk L (d + 1) i = chk L d (i + 1) := by conv => lhs; unfold chk; rw [if_pos h]
theorem fault_l0 (L : List S27) (hL : L.length ≤ 4096) (d : Nat) : ∀ i : Nat, i + d = L.length → Ev (fun k => impl_timersFault.l0 k L L (L.length : Int) (i : Int)) (if chk L d i = true then 0 else 1) := by
  induction d with
  | zero =>
    intro i hi
    rw [show chk L 0 i = decide (L.length ≤ 20) from rfl]
    refine Ev.step (f := fun _ => some _) (fun k => ?_) (Ev.now _)
    simp only [impl_timersFault.l0]; rw [if_neg (by omega)]
    by_cases h : L.length ≤ 20
    · rw [if_neg (by omega), decide_eq_true h, if_pos rfl]
    · rw [if_pos (by omega), decide_eq_false h, if_neg (by simp)]
  | succ d ih =>
    intro i hi
    have hw : wrap64 ((i : Int) + 1) = ((i + 1 : Nat) : Int) := by rw [wrap64_id (by omega) (by omega)]; omega
    have h := ih (i + 1) (by omega)
    have hn := (idx_nn (L.getD i z27).f1 (L.take i) 0 (Int.le_refl 0)).trans (new_iff L i (by omega) (L.getD i z27).f1)
    cases hok : okT (L.getD i z27) with
    | false =>
      rw [chk_bad (fun g => by rw [g.1] at hok; cases hok)]
      refine Ev.step (f := fun _ => some _) (fun k => ?_) (Ev.now _)
      simp only [impl_timersFault.l0, hw, rdG, timerOK_eq, hok, Option.bind_some]
      rw [if_pos (by omega), if_pos (by omega), if_pos (by omega), if_neg (by simp)]; rfl
    | true =>
      by_cases h0 : 0 < i
      · have hp : wrap64 ((i : Int) - 1) = ((i - 1 : Nat) : Int) := by rw [wrap64_id (by omega) (by omega)]; omega
        obtain ⟨v, hv, hvl⟩ := order_ev (L.getD (i - 1) z27) (L.getD i z27)
        refine Ev.step (fun k => by
          simp only [impl_timersFault.l0, hw, hp, rdG, timerOK_eq, hok, impl_timerAt.f, Option.bind_some, Int.toNat_natCast]
          rw [if_pos (by omega), if_pos (by omega), if_pos (by omega), if_pos trivial, if_pos (by omega), if_pos (by omega), if_pos (by omega)]) ?_
        refine Ev.bind hv ?_
        by_cases hl : lessT (L.getD (i - 1) z27) (L.getD i z27)
        · have hv0 : ¬ v ≥ 0 := fun q => hvl.1 q hl
          by_cases hj : ∀ j, j < i → (L.getD j z27).f1 ≠ (L.getD i z27).f1
          · rw [chk_go ⟨hok, fun _ => hl, hj⟩]
            refine Ev.congr (fun k => ?_) h
            rw [if_neg hv0, if_pos (by omega), if_neg (fun q => hn.1 q hj)]
          · rw [chk_bad (fun g => hj g.2.2)]
            refine Ev.congr (f := fun _ => some _) (fun k => ?_) (Ev.now _)
            rw [if_neg hv0, if_pos (by omega), if_pos (hn.2 hj)]; rfl
        · rw [chk_bad (fun g => hl (g.2.1 h0))]
          refine Ev.congr (f := fun _ => some _) (fun k => ?_) (Ev.now _)
          rw [if_pos (hvl.2 hl)]; rfl
      · refine Ev.step (fun k => by
          simp only [impl_timersFault.l0, hw, rdG, timerOK_eq, hok, impl_timerAt.f, Option.bind_some, Int.toNat_natCast]
          rw [if_pos (by omega), if_pos (by omega), if_pos (by omega), if_pos trivial, if_neg (by omega), if_pos (by omega)]) ?_
        by_cases hj : ∀ j, j < i → (L.getD j z27).f1 ≠ (L.getD i z27).f1
        · rw [chk_go ⟨hok, fun q => absurd q h0, hj⟩]
          refine Ev.congr (fun k => ?_) h
          rw [if_neg (fun q => hn.1 q hj)]
        · rw [chk_bad (fun g => hj g.2.2)]
          refine Ev.congr (f := fun _ => some _) (fun k => ?_) (Ev.now _)
          rw [if_pos (hn.2 hj)]; rfl
theorem fault_ev (L : List S27) : Ev (fun k => impl_timersFault.f k L) (if L.length > 4096 then 2 else if chk L L.length 0 = true then 0 else 1) := by
  by_cases h : L.length > 4096
  · rw [if_pos h]
    refine Ev.congr (f := fun _ => some _) (fun k => ?_) (Ev.now _)
    unfold impl_timersFault.f
    rw [if_pos (by omega)]
  · rw [if_neg h]
    refine Ev.congr (fun k => ?_) (fault_l0 L (by omega) L.length 0 (by omega))
    unfold impl_timersFault.f
    rw [if_neg (by omega)]; rfl
theorem in_ok (a : Int) : spec_l01In.f a 0 1000000 = some (decide (0 ≤ a ∧ a ≤ 1000000)) := by
  unfold spec_l01In.f
  by_cases h : 0 ≤ a
  · rw [if_pos h]; simp [h]
  · rw [if_neg h]; simp; omega
open Classical in
theorem spec_l1 (L : List S27) (hL : L.length ≤ 1048576) (i : Nat) (hi : i < L.length) (r : Bool) (h : Ev (fun k => spec_l05Timers.l0 k L ((i + 1 : Nat) : Int)) r) (d : Nat) : ∀ j : Nat, j + d = i → Ev (fun k => spec_l05Timers.l1 k L (i : Int) (j : Int)) (if (∀ q, j ≤ q → q < i → (L.getD q z27).f1 ≠ (L.getD i z27).f1) then r else false) := by
  have hw : wrap64 ((i : Int) + 1) = ((i + 1 : Nat) : Int) := by rw [wrap64_id (by omega) (by omega)]; omega
  induction d with
  | zero =>
    intro j hj
    rw [if_pos (fun q h1 h2 => by omega)]
    refine Ev.step (fun k => ?_) h
    simp only [spec_l05Timers.l1, hw]; rw [if_neg (by omega)]
  | succ d ih =>
    intro j hj
    have hw2 : wrap64 ((j : Int) + 1) = ((j + 1 : Nat) : Int) := by rw [wrap64_id (by omega) (by omega)]; omega
    by_cases e : (L.getD j z27).f1 = (L.getD i z27).f1
    · rw [if_neg (fun q => q j (Nat.le_refl _) (by omega) e)]
      refine Ev.step (f := fun _ => some _) (fun k => ?_) (Ev.now _)
      simp only [spec_l05Timers.l1, rdG]; rw [if_pos (by omega), if_pos (by omega), if_pos (by omega), if_pos (by omega), if_pos (by omega), if_pos e]
    · have h2 := ih (j + 1) (by omega)
      have e2 : (∀ q, j ≤ q → q < i → (L.getD q z27).f1 ≠ (L.getD i z27).f1) ↔ (∀ q, j + 1 ≤ q → q < i → (L.getD q z27).f1 ≠ (L.getD i z27).f1) :=
        ⟨fun g q h1 h3 => g q (by omega) h3, fun g q h1 h3 => by
          by_cases eq : q = j
          · rw [eq]; exact e
          · exact g q (by omega) h3⟩
      rw [show (if (∀ q, j ≤ q → q < i → (L.getD q z27).f1 ≠ (L.getD i z27).f1) then r else false) = (if (∀ q, j + 1 ≤ q → q < i → (L.getD q z27).f1 ≠ (L.getD i z27).f1) then r else false) from by simp only [e2]]
      refine Ev.step (fun k => ?_) h2
      simp only [spec_l05Timers.l1, rdG, hw2]; rw [if_pos (by omega), if_pos (by omega), if_pos (by omega), if_pos (by omega), if_pos (by omega), if_neg e]
theorem spec_l0 (L : List S27) (hL : L.length ≤ 1048576) (d : Nat) : ∀ i : Nat, i + d = L.length → Ev (fun k => spec_l05Timers.l0 k L (i : Int)) (chk L d i) := by
  induction d with
  | zero =>
    intro i hi
    rw [show chk L 0 i = decide (L.length ≤ 20) from rfl]
    refine Ev.step (f := fun _ => some _) (fun k => ?_) (Ev.now _)
    simp only [spec_l05Timers.l0]; rw [if_neg (by omega)]; congr 1; apply decide_eq_decide.2; omega
  | succ d ih =>
    intro i hi
    have h := spec_l1 L hL i (by omega) _ (ih (i + 1) (by omega)) i 0 (by omega)
    have bad : ∀ k, spec_l05Timers.j1 (k + 1) L (i : Int) true = some false := fun k => by simp only [spec_l05Timers.j1]; rw [if_pos trivial]
    have bad2 : ∀ k, spec_l05Timers.j2 (k + 1) L (i : Int) true = some false := fun k => by simp only [spec_l05Timers.j2]; rw [if_pos trivial]
    have toJ1 : okT (L.getD i z27) = true → ∀ r, Ev (fun k => spec_l05Timers.j1 k L (i : Int) false) r → Ev (fun k => spec_l05Timers.l0 k L (i : Int)) r := fun hok r hr => by
      unfold okT at hok
      have hok := of_decide_eq_true hok
      refine Ev.step (fun k => ?_) hr
      simp only [spec_l05Timers.l0, rdG, in_ok]
      rw [if_pos (by omega), if_pos (by omega), Option.bind_some, decide_eq_true ⟨hok.1, hok.2.1⟩, if_pos rfl, Option.bind_some, decide_eq_true ⟨hok.2.2.1, hok.2.2.2⟩]; rfl
    have fin : (∀ j, j < i → (L.getD j z27).f1 ≠ (L.getD i z27).f1) → Ev (fun k => spec_l05Timers.j2 k L (i : Int) false) (chk L d (i + 1)) := fun hj => by
      rw [if_pos (fun q _ h2 => hj q h2)] at h
      refine Ev.step (fun k => ?_) h
      simp only [spec_l05Timers.j2]; rw [if_neg (by simp)]; rfl
    have fin2 : (¬ ∀ j, j < i → (L.getD j z27).f1 ≠ (L.getD i z27).f1) → Ev (fun k => spec_l05Timers.j2 k L (i : Int) false) false := fun hj => by
      rw [if_neg (fun q => hj (fun j h2 => q j (Nat.zero_le _) h2))] at h
      refine Ev.step (fun k => ?_) h
      simp only [spec_l05Timers.j2]; rw [if_neg (by simp)]; rfl
    cases hok : okT (L.getD i z27) with
    | false =>
      rw [chk_bad (fun g => by rw [g.1] at hok; cases hok)]
      have hno : ¬ (0 ≤ (L.getD i z27).f0 ∧ (L.getD i z27).f0 ≤ 1000000 ∧ 0 ≤ (L.getD i z27).f1 ∧ (L.getD i z27).f1 ≤ 1000000) := by unfold okT at hok; exact of_decide_eq_false hok
      have jb : Ev (fun k => spec_l05Timers.j1 k L (i : Int) true) false := Ev.step (f := fun _ => some false) bad (Ev.now _)
      refine Ev.step (fun k => ?_) jb
      simp only [spec_l05Timers.l0, rdG, in_ok]
      rw [if_pos (by omega), if_pos (by omega), Option.bind_some]
      by_cases h1 : 0 ≤ (L.getD i z27).f0 ∧ (L.getD i z27).f0 ≤ 1000000
      · rw [decide_eq_true h1, if_pos rfl, Option.bind_some, decide_eq_false (fun q => hno ⟨h1.1, h1.2, q.1, q.2⟩)]; rfl
      · rw [decide_eq_false h1, if_neg (by simp)]
    | true =>
      refine toJ1 hok _ ?_
      by_cases h0 : 0 < i
      · have hp : wrap64 ((i : Int) - 1) = ((i - 1 : Nat) : Int) := by rw [wrap64_id (by omega) (by omega)]; omega
        have step : ∀ b r, Ev (fun k => spec_l05Timers.j2 k L (i : Int) b) r → (if (L.getD (i - 1) z27).f0 > (L.getD i z27).f0 then true else if (L.getD (i - 1) z27).f0 = (L.getD i z27).f0 then decide ((L.getD (i - 1) z27).f1 ≥ (L.getD i z27).f1) else false) = b → Ev (fun k => spec_l05Timers.j1 k L (i : Int) false) r := fun b r hr e => by
          refine Ev.step (fun k => ?_) hr
          simp only [spec_l05Timers.j1, hp, rdG]
          rw [if_neg (by simp), if_pos (by omega), if_pos (by omega), if_pos (by omega), if_pos (by omega), if_pos (by omega), ← e]
          split
          · rfl
          · split <;> rfl
        by_cases hl : lessT (L.getD (i - 1) z27) (L.getD i z27)
        · have eb : (if (L.getD (i - 1) z27).f0 > (L.getD i z27).f0 then true else if (L.getD (i - 1) z27).f0 = (L.getD i z27).f0 then decide ((L.getD (i - 1) z27).f1 ≥ (L.getD i z27).f1) else false) = false := by
            unfold lessT at hl
            rw [if_neg (by omega)]
            split
            · apply decide_eq_false; omega
            · rfl
          by_cases hj : ∀ j, j < i → (L.getD j z27).f1 ≠ (L.getD i z27).f1
          · rw [chk_go ⟨hok, fun _ => hl, hj⟩]; exact step _ _ (fin hj) eb
          · rw [chk_bad (fun g => hj g.2.2)]; exact step _ _ (fin2 hj) eb
        · rw [chk_bad (fun g => hl (g.2.1 h0))]
          refine step true _ (Ev.step (f := fun _ => some false) bad2 (Ev.now _)) ?_
          unfold lessT at hl
          split
          · rfl
          · rw [if_pos (by omega)]; apply decide_eq_true; omega
      · have step : ∀ r, Ev (fun k => spec_l05Timers.j2 k L (i : Int) false) r → Ev (fun k => spec_l05Timers.j1 k L (i : Int) false) r := fun r hr => by
          refine Ev.step (fun k => ?_) hr
          simp only [spec_l05Timers.j1]
          rw [if_neg (by simp), if_neg (by omega)]
        by_cases hj : ∀ j, j < i → (L.getD j z27).f1 ≠ (L.getD i z27).f1
        · rw [chk_go ⟨hok, fun q => absurd q h0, hj⟩]; exact step _ (fin hj)
        · rw [chk_bad (fun g => hj g.2.2)]; exact step _ (fin2 hj)
theorem timers_ev (L : List S27) (hL : L.length ≤ 1048576) : Ev (fun k => spec_l05Timers.f k L) (chk L L.length 0) := by
  refine Ev.congr (fun k => ?_) (spec_l0 L hL L.length 0 (by omega))
  unfold spec_l05Timers.f; rfl
theorem chk_sorted {L : List S27} (h : chk L L.length 0 = true) : L.Pairwise (fun x y => x.f0 ≤ y.f0) := by
  have hg := (chk_good L _ _ h).1
  have hs : ∀ d i, i + d < L.length → (L.getD i z27).f0 ≤ (L.getD (i + d) z27).f0 := by
    intro d
    induction d with
    | zero => intro i hi; exact Int.le_refl _
    | succ d ih =>
      intro i hi
      have h1 := ih i (by omega)
      have h2 := (hg (i + (d + 1)) (by omega) (by omega)).2.1 (by omega)
      rw [show i + (d + 1) - 1 = i + d by omega] at h2
      unfold lessT at h2; omega
  rw [List.pairwise_iff_getElem]
  intro i j hi hj hij
  have := hs (j - i) i (by omega)
  rw [show i + (j - i) = j by omega] at this
  simpa [List.getD_eq_getElem?_getD, hi, hj] using this
/-! ### a timer dropped -/
theorem chk_ids {L : List S27} (h : chk L L.length 0 = true) : L.Pairwise (fun x y => x.f1 ≠ y.f1) := by
  have hg := (chk_good L _ _ h).1
  rw [List.pairwise_iff_getElem]
  intro i j hi hj hij
  have := (hg j (Nat.zero_le _) (by omega)).2.2 i hij
  simpa [List.getD_eq_getElem?_getD, hi, hj] using this
theorem drop_eq (id : Int) (l : List S27) (h : l.Pairwise (fun x y => x.f1 ≠ y.f1)) : ∀ i : Int, (idx id l i = -1 ∧ l.filter (fun x => !decide (x.f1 = id)) = l) ∨ (∃ n : Nat, n < l.length ∧ idx id l i = i + n ∧ l.filter (fun x => !decide (x.f1 = id)) = l.eraseIdx n) := by
  induction l with
  | nil => intro i; exact Or.inl ⟨rfl, rfl⟩
  | cons x xs ih =>
    intro i
    obtain ⟨h1, h2⟩ := List.pairwise_cons.1 h
    simp only [idx]
    by_cases hx : x.f1 = id
    · rw [if_pos hx]
      refine Or.inr ⟨0, by simp, by simp, ?_⟩
      rw [List.filter_cons_of_neg (by simp [hx]), List.eraseIdx_zero, List.tail_cons]
      exact List.filter_eq_self.2 (fun y hy => by have := h1 y hy; rw [hx] at this; simp; exact fun e => this e.symm)
    · rw [if_neg hx, List.filter_cons_of_pos (by simp [hx])]
      rcases ih h2 (i + 1) with ⟨e1, e2⟩ | ⟨n, hn, e1, e2⟩
      · exact Or.inl ⟨e1, by rw [e2]⟩
      · refine Or.inr ⟨n + 1, by simp; omega, by rw [e1]; omega, ?_⟩
        rw [e2, List.eraseIdx_cons_succ]
theorem drop_l0 (id : Int) (L : List S27) (hL : L.length ≤ 1048576) (d : Nat) : ∀ (i : Nat) (o : List S27), i + d = L.length → o.length ≤ i → Ev (fun k => spec_l05Drop.l0 k L id o (i : Int)) (o ++ (L.drop i).filter (fun x => !decide (x.f1 = id))) := by
  induction d with
  | zero =>
    intro i o hi _
    refine Ev.step (f := fun _ => some _) (fun k => ?_) (Ev.now _)
    simp only [spec_l05Drop.l0]; rw [if_neg (by omega), List.drop_eq_nil_of_le (by omega)]; simp
  | succ d ih =>
    intro i o hi ho
    have hw : wrap64 ((i : Int) + 1) = ((i + 1 : Nat) : Int) := by rw [wrap64_id (by omega) (by omega)]; omega
    have hi' : i < L.length := by omega
    rw [List.drop_eq_getElem_cons hi']
    by_cases hx : (L[i]).f1 = id
    · have h := ih (i + 1) o (by omega) (by omega)
      rw [List.filter_cons_of_neg (by simp [hx])]
      refine Ev.step (fun k => ?_) h
      simp only [spec_l05Drop.l0, hw, rdT L i hi']; rw [if_pos (by omega), if_pos (by omega), if_pos hx]
    · have h := ih (i + 1) (o ++ [L[i]]) (by omega) (by simp; omega)
      rw [List.filter_cons_of_pos (by simp [hx])]
      rw [List.append_assoc] at h
      refine Ev.step (fun k => ?_) h
      simp only [spec_l05Drop.l0, hw, rdT L i hi']; rw [if_pos (by omega), if_pos (by omega), if_neg hx, if_pos (by omega)]
theorem drop_ev (id : Int) (L : List S27) (hL : L.length ≤ 1048576) : Ev (fun k => spec_l05Drop.f k L id) (L.filter (fun x => !decide (x.f1 = id))) := by
  have h := drop_l0 id L hL L.length 0 [] (by omega) (by simp)
  rw [List.drop_zero, List.nil_append] at h
  exact Ev.congr (fun k => by unfold spec_l05Drop.f; rfl) h
/-! ### a timer put -/
theorem less_trans {x y z : S27} (h1 : lessT x y) (h2 : lessT y z) : lessT x z := by unfold lessT at *; omega
theorem chk_less {L : List S27} (h : chk L L.length 0 = true) : L.Pairwise lessT := by
  have hg := (chk_good L _ _ h).1
  have step : ∀ d i : Nat, (hi : i + d + 1 < L.length) → lessT L[i] L[i + d + 1] := by
    intro d
    induction d with
    | zero =>
      intro i hi
      have := (hg (i + 1) (Nat.zero_le _) (by omega)).2.1 (by omega)
      simpa [List.getD_eq_getElem?_getD, show i < L.length by omega, show i + 1 < L.length by omega] using this
    | succ d ih =>
      intro i hi
      have h1 := ih i (by omega)
      have h2 := (hg (i + d + 2) (Nat.zero_le _) (by omega)).2.1 (by omega)
      have h3 : lessT L[i + d + 1] L[i + d + 2] := by simpa [List.getD_eq_getElem?_getD, show i + d + 1 < L.length by omega, show i + d + 2 < L.length by omega] using h2
      exact less_trans h1 h3
  rw [List.pairwise_iff_getElem]
  intro i j hi hj hij
  have := step (j - i - 1) i (by omega)
  simpa [show i + (j - i - 1) + 1 = j by omega] using this
def leB (x y : S27) : Bool := !(ltOf ordv) y x
theorem leB_iff (x y : S27) : leB x y = true ↔ ¬ lessT y x := by
  unfold leB ltOf lessT
  rw [Bool.not_eq_true', decide_eq_false_iff_not, ord_lt]
theorem uniq : ∀ (l1 l2 : List S27), l1.Perm l2 → l1.Pairwise (fun x y => leB x y = true) → l2.Pairwise (fun x y => leB x y = true) → l1 = l2 := by
  intro l1
  induction l1 with
  | nil => intro l2 hp _ _; exact (List.nil_perm.1 hp).symm
  | cons x xs ih =>
    intro l2 hp h1 h2
    cases l2 with
    | nil => exact absurd hp.symm.nil_eq (by simp)
    | cons y ys =>
      obtain ⟨a1, b1⟩ := List.pairwise_cons.1 h1
      obtain ⟨a2, b2⟩ := List.pairwise_cons.1 h2
      have hxy : x = y := by
        have hx : x ∈ y :: ys := hp.mem_iff.1 (List.mem_cons_self)
        have hy : y ∈ x :: xs := hp.mem_iff.2 (List.mem_cons_self)
        rcases List.mem_cons.1 hx with e | e
        · exact e
        · rcases List.mem_cons.1 hy with e2 | e2
          · exact e2.symm
          · have c1 := (leB_iff y x).1 (a2 x e)
            have c2 := (leB_iff x y).1 (a1 y e2)
            unfold lessT at c1 c2
            cases x; cases y
            simp only [S27.mk.injEq] at *
            omega
      subst hxy
      rw [ih ys (List.Perm.cons_inv hp) b1 b2]
def pB (t x : S27) : Bool := decide (lessT x t)
instance (x y : S27) : Decidable (lessT x y) := by unfold lessT; infer_instance
def ins (F : List S27) (t : S27) : List S27 := F.takeWhile (fun x => ltOf ordv x t) ++ ([t] ++ F.dropWhile (fun x => ltOf ordv x t))
theorem lt_iff (x t : S27) : ltOf ordv x t = true ↔ lessT x t := by
  unfold ltOf lessT
  rw [decide_eq_true_eq, ord_lt]
theorem ins_sorted (F : List S27) (t : S27) (h : F.Pairwise lessT) : (ins F t).Pairwise (fun x y => leB x y = true) := by
  have ss : ∀ l : List S27, l.Pairwise lessT → l.Pairwise (fun x y => leB x y = true) := fun l hl => hl.imp (fun {a b} q => by rw [leB_iff]; unfold lessT at *; omega)
  unfold ins
  have hsplit : F.takeWhile (fun x => ltOf ordv x t) ++ F.dropWhile (fun x => ltOf ordv x t) = F := List.takeWhile_append_dropWhile
  have hF := h
  rw [← hsplit] at hF
  obtain ⟨g1, g2, g3⟩ := List.pairwise_append.1 hF
  have hlt : ∀ x ∈ F.takeWhile (fun x => ltOf ordv x t), lessT x t := fun x hx => (lt_iff x t).1 (List.all_eq_true.1 List.all_takeWhile x hx)
  have hge : ∀ y ∈ F.dropWhile (fun x => ltOf ordv x t), ¬ lessT y t := by
    cases hd : F.dropWhile (fun x => ltOf ordv x t) with
    | nil => intro y hy; cases hy
    | cons z zs =>
      have hz : ¬ lessT z t := fun q => by
        have h0 := List.head_dropWhile_not (fun x => ltOf ordv x t) (by rw [hd]; simp)
        simp only [hd, List.head_cons] at h0
        rw [(lt_iff z t).2 q] at h0; cases h0
      rw [hd] at g2
      obtain ⟨g4, _⟩ := List.pairwise_cons.1 g2
      intro y hy
      rcases List.mem_cons.1 hy with e | e
      · rw [e]; exact hz
      · have := g4 y e
        unfold lessT at *; omega
  refine List.pairwise_append.2 ⟨ss _ g1, ?_, ?_⟩
  · refine List.pairwise_cons.2 ⟨fun y hy => (leB_iff _ _).2 (hge y (by simpa using hy)), ss _ g2⟩
  · intro x hx y hy
    rw [leB_iff]
    rcases List.mem_append.1 hy with e | e
    · have : y = t := by simpa using e
      rw [this]
      have := hlt x hx
      unfold lessT at *; omega
    · have := g3 x hx y e
      unfold lessT at *; omega
theorem srt_ins (F : List S27) (t : S27) (h : F.Pairwise lessT) : srt (F ++ [t]) = ins F t := by
  apply uniq
  · refine (List.mergeSort_perm _ _).trans ?_
    unfold ins
    have hsplit : F.takeWhile (fun x => ltOf ordv x t) ++ F.dropWhile (fun x => ltOf ordv x t) = F := List.takeWhile_append_dropWhile
    conv => lhs; rw [← hsplit]
    rw [List.append_assoc]
    exact List.Perm.append_left _ List.perm_append_comm
  · exact List.pairwise_mergeSort (le := leB) (fun a b c h1 h2 => by rw [leB_iff] at *; unfold lessT at *; omega) (fun a b => by
      by_cases q : lessT b a
      · have : leB b a = true := by rw [leB_iff]; unfold lessT at *; omega
        rw [this]; simp
      · have : leB a b = true := by rw [leB_iff]; exact q
        rw [this]; simp) (F ++ [t])
  · exact ins_sorted F t h
theorem put_stop (F : List S27) (hF : F.length ≤ 1048576) (a b : Int) (i : Nat) (hi : i ≤ F.length) : Ev (fun k => spec_TimerPut.j2 k F (i : Int) false a b) ((F.take i ++ [⟨a, b⟩]) ++ F.drop i, 0) := by
  refine Ev.step (f := fun _ => some _) (fun k => ?_) (Ev.now _)
  simp only [spec_TimerPut.j2, Option.bind_some, List.nil_append, Int.toNat_natCast]
  rw [if_neg (by simp), if_pos (by omega), if_pos (by omega), if_pos (by simp; omega), if_pos (by simp; omega), if_pos (by simp; omega)]
theorem put_l0 (F : List S27) (hF : F.length ≤ 1048576) (a b : Int) (d : Nat) : ∀ i : Nat, i + d = F.length → Ev (fun k => spec_TimerPut.l0 k F (i : Int) a b) ((F.take i ++ (F.drop i).takeWhile (fun x => ltOf ordv x ⟨a, b⟩)) ++ ([⟨a, b⟩] ++ (F.drop i).dropWhile (fun x => ltOf ordv x ⟨a, b⟩)), 0) := by
  induction d with
  | zero =>
    intro i hi
    have h := put_stop F hF a b i (by omega)
    have e : (F.take i ++ (F.drop i).takeWhile (fun x => ltOf ordv x ⟨a, b⟩)) ++ ([⟨a, b⟩] ++ (F.drop i).dropWhile (fun x => ltOf ordv x ⟨a, b⟩)) = (F.take i ++ [(⟨a, b⟩ : S27)]) ++ F.drop i := by
      rw [List.drop_eq_nil_of_le (by omega)]; simp
    rw [e]
    refine Ev.step (fun k => ?_) h
    simp only [spec_TimerPut.l0]
    rw [if_neg (by omega)]
  | succ d ih =>
    intro i hi
    have hw : wrap64 ((i : Int) + 1) = ((i + 1 : Nat) : Int) := by rw [wrap64_id (by omega) (by omega)]; omega
    have hi' : i < F.length := by omega
    have h0 := ih (i + 1) (by omega)
    have h : Ev (fun k => spec_TimerPut.j2 k F (i : Int) true a b) ((F.take (i + 1) ++ (F.drop (i + 1)).takeWhile (fun x => ltOf ordv x ⟨a, b⟩)) ++ ([⟨a, b⟩] ++ (F.drop (i + 1)).dropWhile (fun x => ltOf ordv x ⟨a, b⟩)), 0) := by
      refine Ev.step (fun k => ?_) h0
      simp only [spec_TimerPut.j2, hw, if_true]
    have hs := put_stop F hF a b i (by omega)
    have hgo : ltOf ordv F[i] ⟨a, b⟩ = true → (F.take (i + 1) ++ (F.drop (i + 1)).takeWhile (fun x => ltOf ordv x ⟨a, b⟩)) ++ ([(⟨a, b⟩ : S27)] ++ (F.drop (i + 1)).dropWhile (fun x => ltOf ordv x ⟨a, b⟩)) = (F.take i ++ (F.drop i).takeWhile (fun x => ltOf ordv x ⟨a, b⟩)) ++ ([⟨a, b⟩] ++ (F.drop i).dropWhile (fun x => ltOf ordv x ⟨a, b⟩)) := fun q => by
      rw [List.drop_eq_getElem_cons hi', List.takeWhile_cons_of_pos (p := fun x => ltOf ordv x ⟨a, b⟩) q, List.dropWhile_cons_of_pos (p := fun x => ltOf ordv x ⟨a, b⟩) q, List.take_succ_eq_append_getElem hi']; simp only [List.append_assoc, List.singleton_append, List.cons_append, List.nil_append]
    have hstop : ltOf ordv F[i] ⟨a, b⟩ = false → (F.take i ++ (F.drop i).takeWhile (fun x => ltOf ordv x ⟨a, b⟩)) ++ ([⟨a, b⟩] ++ (F.drop i).dropWhile (fun x => ltOf ordv x ⟨a, b⟩)) = (F.take i ++ [⟨a, b⟩]) ++ F.drop i := fun q => by
      rw [List.drop_eq_getElem_cons hi', List.takeWhile_cons_of_neg (p := fun x => ltOf ordv x ⟨a, b⟩) (by rw [q]; simp), List.dropWhile_cons_of_neg (p := fun x => ltOf ordv x ⟨a, b⟩) (by rw [q]; simp)]; simp
    by_cases c1 : (F[i]).f0 < a
    · have q : ltOf ordv F[i] ⟨a, b⟩ = true := by rw [lt_iff]; exact Or.inl c1
      rw [hgo q] at h
      refine Ev.step (fun k => ?_) h
      simp only [spec_TimerPut.l0, rdT F i hi']
      rw [if_pos (by omega), if_pos (by omega), if_pos c1]
    · by_cases c2 : (F[i]).f0 = a
      · by_cases c3 : (F[i]).f1 < b
        · have q : ltOf ordv F[i] ⟨a, b⟩ = true := by rw [lt_iff]; exact Or.inr ⟨c2, c3⟩
          rw [hgo q] at h
          refine Ev.step (fun k => ?_) h
          simp only [spec_TimerPut.l0, rdT F i hi']
          rw [if_pos (by omega), if_pos (by omega), if_neg c1, if_pos c2, decide_eq_true c3]
        · have q : ltOf ordv F[i] ⟨a, b⟩ = false := by
            cases e : ltOf ordv F[i] ⟨a, b⟩ with
            | false => rfl
            | true => rw [lt_iff] at e; unfold lessT at e; exact absurd e (by simp only; omega)
          rw [hstop q]
          refine Ev.step (fun k => ?_) hs
          simp only [spec_TimerPut.l0, rdT F i hi']
          rw [if_pos (by omega), if_pos (by omega), if_neg c1, if_pos c2, decide_eq_false c3]
      · have q : ltOf ordv F[i] ⟨a, b⟩ = false := by
          cases e : ltOf ordv F[i] ⟨a, b⟩ with
          | false => rfl
          | true => rw [lt_iff] at e; unfold lessT at e; exact absurd e (by simp only; omega)
        rw [hstop q]
        refine Ev.step (fun k => ?_) hs
        simp only [spec_TimerPut.l0, rdT F i hi']
        rw [if_pos (by omega), if_pos (by omega), if_neg c1, if_neg c2]
theorem chk_one (t : S27) : chk [t] [t].length 0 = okT t := by
  show chk [t] 1 0 = okT t
  unfold chk
  by_cases h : okT t = true
  · have g : good [t] 0 := ⟨h, fun q => absurd q (Nat.lt_irrefl 0), fun j q => absurd q (Nat.not_lt_zero j)⟩
    rw [if_pos g, h]; unfold chk; rfl
  · have g : ¬ good [t] 0 := fun g => h g.1
    rw [if_neg g]; exact (Bool.eq_false_iff.2 h).symm
theorem del_filter (id : Int) (L : List S27) (h : L.Pairwise (fun x y => x.f1 ≠ y.f1)) : delL id L = some (L.filter (fun x => !decide (x.f1 = id))) := by
  unfold delL
  rcases drop_eq id L h 0 with ⟨e1, e2⟩ | ⟨n, hn, e1, e2⟩
  · rw [e1, if_pos (by decide), e2]
  · rw [e1, if_neg (by omega), Int.zero_add, Int.toNat_natCast, ← e2, if_pos]
    rw [List.all_eq_true]
    intro x hx
    have := (List.mem_filter.1 hx).2
    simpa using this
theorem put_both (L : List S27) (hL : L.length ≤ 1048576) (a b : Int) : ∃ (S : List S27) (c : Int), Ev (fun k => spec_TimerPut.f k L a b) (S, c) ∧ Ev (fun k => impl_TimerPut.f k L a b) (S, c) ∧ S.length ≤ 1048576 := by
  have hf := fault_ev L
  have ht := timers_ev L hL
  by_cases h1 : L.length > 4096
  · rw [if_pos h1] at hf
    refine ⟨[], 2, ?_, ?_, by simp⟩
    · exact Ev.congr (f := fun _ => some _) (fun k => by unfold spec_TimerPut.f; rw [if_pos (by omega)]) (Ev.now _)
    · unfold impl_TimerPut.f
      exact Ev.bind hf (Ev.congr (f := fun _ => some _) (fun k => by rw [if_neg (by decide)]) (Ev.now _))
  · rw [if_neg h1] at hf
    have bad : ∀ k : Nat, spec_TimerPut.j0 (k + 1) L true a b = some ([], 1) := fun k => by simp only [spec_TimerPut.j0]; rw [if_pos trivial]
    have badE : Ev (fun k => spec_TimerPut.j0 k L true a b) (([] : List S27), (1 : Int)) := Ev.step (f := fun _ => some _) (fun k => bad k) (Ev.now _)
    cases hc : chk L L.length 0 with
    | false =>
      rw [hc] at hf ht
      refine ⟨[], 1, ?_, ?_, by simp⟩
      · exact Ev.congr (fun k => by unfold spec_TimerPut.f; rw [if_neg (by omega)]) (Ev.bind ht (Ev.congr (fun k => by rw [if_neg (by simp)]) badE))
      · unfold impl_TimerPut.f
        exact Ev.bind hf (Ev.congr (f := fun _ => some _) (fun k => by rw [if_neg (by decide)]; rfl) (Ev.now _))
    | true =>
      have h20 := (chk_good L _ _ hc).2
      have hids := chk_ids hc
      have hless := chk_less hc
      rw [hc] at hf ht
      have h1t := timers_ev [(⟨a, b⟩ : S27)] (by simp)
      rw [chk_one] at h1t
      have hok := timerOK_eq (⟨a, b⟩ : S27)
      cases ho : okT (⟨a, b⟩ : S27) with
      | false =>
        rw [ho] at h1t hok
        refine ⟨[], 1, ?_, ?_, by simp⟩
        · exact Ev.congr (fun k => by unfold spec_TimerPut.f; rw [if_neg (by omega)]) (Ev.bind ht (Ev.congr (fun k => by rw [if_pos rfl]) (Ev.bind h1t badE)))
        · unfold impl_TimerPut.f
          exact Ev.bind hf (Ev.congr (f := fun _ => some _) (fun k => by rw [if_pos (by decide), hok, Option.bind_some, if_neg (by simp)]) (Ev.now _))
      | true =>
        rw [ho] at h1t hok
        have hd := drop_ev b L hL
        have hdel := del_filter b L hids
        have hcl : impl_Timer_31.f L = some L := by unfold impl_Timer_31.f; rw [if_pos (by omega)]
        have hFl : (L.filter (fun x => !decide (x.f1 = b))).length ≤ L.length := List.length_filter_le _ _
        have hFs : (L.filter (fun x => !decide (x.f1 = b))).Pairwise lessT := hless.filter _
        generalize L.filter (fun x => !decide (x.f1 = b)) = F at hd hdel hFl hFs
        have eS : ∀ r, Ev (fun k => if (F.length : Int) = 20 then ((some (([] : List S27) : List S27)).bind fun y165 => (if y165.length + L.length < 8796093022208 then (some ((y165 ++ L), 7)) else (none))) else (spec_TimerPut.l0 k F 0 a b)) r → Ev (fun k => spec_TimerPut.f k L a b) r := fun r h => by
          refine Ev.congr (fun k => by unfold spec_TimerPut.f; rw [if_neg (by omega)]) (Ev.bind ht (Ev.congr (fun k => by rw [if_pos rfl]) (Ev.bind h1t ?_)))
          refine Ev.step (f := fun k => (spec_l05Drop.f k L b).bind fun t162 => (if (t162.length : Int) = 20 then ((some (([] : List S27) : List S27)).bind fun y165 => (if y165.length + L.length < 8796093022208 then (some ((y165 ++ L), 7)) else (none))) else (spec_TimerPut.l0 k t162 0 a b))) (fun k => ?_) (Ev.bind hd h)
          simp only [spec_TimerPut.j0]
          rw [if_neg (by simp)]
        have eI : ∀ r, (if F.length = 20 then some (L, (7 : Int)) else if F.length < 1000000 then some (srt (F ++ [⟨a, b⟩]), 0) else none) = some r → Ev (fun k => impl_TimerPut.f k L a b) r := fun r h => by
          unfold impl_TimerPut.f
          exact Ev.bind hf (Ev.congr (f := fun _ => some r) (fun k => by rw [if_pos (by decide), hok, Option.bind_some, if_pos rfl, hcl, Option.bind_some, hdel, Option.bind_some]; exact h) (Ev.now _))
        by_cases c20 : F.length = 20
        · refine ⟨L, 7, eS _ (Ev.congr (f := fun _ => some _) (fun k => by rw [if_pos (by omega), Option.bind_some, if_pos (by simp; omega)]; rfl) (Ev.now _)), eI _ (by rw [if_pos c20]), hL⟩
        · have hp := put_l0 F (by omega) a b F.length 0 (by omega)
          rw [List.take_zero, List.drop_zero, List.nil_append] at hp
          have hs := srt_ins F ⟨a, b⟩ hFs
          refine ⟨ins F ⟨a, b⟩, 0, eS _ (Ev.congr (fun k => by rw [if_neg (by omega)]; rfl) hp), eI _ (by rw [if_neg c20, if_pos (by omega), hs]), ?_⟩
          rw [← hs]
          unfold srt
          rw [List.length_mergeSort]; simp; omega
-- SAYS: TimerPut: both read the same timers; what the program sorts is what the reference lays in its place, for the others stand in their order and no two are alike.
-- USES: Timers Drop Put
theorem FnExactTimerPut : laws_FnExactTimerPut.Pure := by
  intro l0 a b hm _ _ _ _
  by_cases hz : wrap64 (1048576 - (l0.length : Int)) < 0
  · refine ⟨1, ?_⟩
    unfold laws_FnExactTimerPut.f laws_szTimerS.f
    rw [if_pos hz, Option.bind_some, if_pos (by decide)]
  · have hl : l0.length ≤ 1048576 := by
      apply Classical.byContradiction
      intro h
      apply hz
      unfold maxLen at hm
      rw [wrap64_id (by omega) (by omega)]; omega
    have hT : (tt l0).length ≤ 1048576 := by rw [tt_length]; exact hl
    have T := toT_ev l0 hl
    obtain ⟨S, c, hs, hi, hS⟩ := put_both (tt l0) hT a b
    suffices h : Ev (fun k => laws_FnExactTimerPut.f k l0 a b) true by
      obtain ⟨K, hK⟩ := h; exact ⟨K, hK K (Nat.le_refl _)⟩
    have eS := eqT_ev S hS
    have tT : Ev (fun _ => laws_toTimer.f a b) (a, b) := Ev.now _
    refine Ev.congr (fun k => by unfold laws_FnExactTimerPut.f laws_szTimerS.f; rw [if_neg hz, Option.bind_some, if_neg hz]) ?_
    refine Ev.bind T ?_
    refine Ev.bind tT ?_
    refine Ev.bind hs ?_
    refine Ev.bind T ?_
    refine Ev.bind tT ?_
    refine Ev.bind hi ?_
    refine Ev.bind eS ?_
    simp only [if_true, bne_self_eq_false]
    refine Ev.step (fun k => by simp only [laws_FnExactTimerPut.j0]; rw [if_neg (by decide)]) ?_
    refine Ev.bind T (Ev.bind (eqT_ev (tt l0) hT) ?_)
    simp only [if_true]
    refine Ev.bind (markT_ev (tt l0) (by omega)) ?_
    refine Ev.congr (fun k => by rw [if_neg (by show ¬ (1 + 2 * ((tt l0).length : Int) < 0); omega)]) ?_
    refine Ev.bind eS ?_
    simp only [if_true, bne_self_eq_false]
    refine Ev.step (fun k => by simp only [laws_FnExactTimerPut.j1]; rw [if_neg (by decide)]) ?_
    refine Ev.bind (markT_ev S (by omega)) (Ev.bind (heldT_ev S.length (by omega)) ?_)
    refine Ev.congr (fun k => by rw [if_neg (by omega), if_pos rfl]) ?_
    refine Ev.bind T ?_
    refine Ev.bind tT ?_
    refine Ev.bind hi ?_
    refine Ev.bind eS ?_
    simp only [if_true, bne_self_eq_false]
    refine Ev.step (fun k => by simp only [laws_FnExactTimerPut.j2]; rw [if_neg (by decide)]) ?_
    refine Ev.bind (heldT_ev S.length (by omega)) ?_
    exact Ev.congr (f := fun _ => some true) (fun k => by rw [if_neg (by omega), if_pos rfl]) (Ev.now _)

end Go.Proofs.Ytnofpkbihecabaa.Pure
