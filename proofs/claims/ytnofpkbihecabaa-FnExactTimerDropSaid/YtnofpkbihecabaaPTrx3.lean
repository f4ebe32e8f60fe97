-- Printed by this session's own program (wip/tools/myprint.py over the kit's print, out of the translation). Nothing here is trusted: Lean checks it.
import Derived.Test.YtnofpkbihecabaaPTrx0
import Derived.Test.YtnofpkbihecabaaPTrx1
import Derived.Test.YtnofpkbihecabaaPTrx2
namespace Go.Proofs.Ytnofpkbihecabaa.PTr
open Go.RowKit Go.Proofs.YtnofpkbihecabaaW.PrintWords Go.Proofs.YtnofpkbihecabaaW.PrintLast Go.Proofs.YtnofpkbihecabaaW.PrintMore
attribute [local go_sem] w64_u8 w64_u8_4 max2_int min2_int max_two min_two max_three min_three max_four min_four   -- for this text's walks alone
set_option linter.unusedVariables false
set_option linter.unusedSimpArgs false

/-! ### impl_Timer_31: function 31 (given: a text of ours) -/

def impl_Timer_31.f (l0 : List S27) : Option (List S27) := if l0.length < 8796093022208 then some l0 else none
set_option maxHeartbeats 2000000 in
theorem impl_Timer_31.calls (A0 : Option Addr) (c0 : Nat) (l0 : List S27) (r : List S27) (w : World) (hr0 : Kd.C k27 w A0 l0.length l0) (hc0 : l0.length ≤ c0) (h : impl_Timer_31.f l0 = some r) :
    Calls Try.prog 31 #[.slice A0 l0.length c0] w fun e w' => ∃ v0_ : Value, e = .returned (v0_) ∧ Kd.R k27 27 w' w.heap.size (fun _ => True) v0_ r ∧ Below w.heap.size w w' := by
  unfold impl_Timer_31.f at h
  by_cases hl : l0.length < 8796093022208
  · rw [if_pos hl] at h
    obtain rfl := Option.some.inj h
    clear h
    have hu := Try.underlying27
    have q23 : ∀ (w : World) (a : Option Addr) (n c n' c' : Nat), (binOp .eql 23 (.slice a n c) (.slice none n' c')).run Try.prog w = .ok (.bool a.isNone) w := fun w a n c n' c' => Lib.run_eql_slice_nil w _ _ a n c n' c' Try.underlying23
    cases A0 with
    | none =>
      have h0 : l0.length = 0 := by
        rcases Nat.eq_zero_or_pos l0.length with h | h
        · exact h
        · obtain ⟨ad, e, _⟩ := hr0.2.2 h; cases e
      obtain rfl := List.eq_nil_of_length_eq_zero h0
      clear h0 hr0 hl
      go_enter Try.func31, Try.ntmps31
      go_wp2
      go_ret
      exact ⟨_, rfl, Kd.R_nil _ _ _ _ _, Below.refl _ _⟩
    | some ad =>
      have HR := Aside0.mk hr0
      have HL := Aside0.mk hl
      clear hr0 hl
      go_enter Try.func31, Try.ntmps31
      go_wp2_with (first
        | ((with_reducible refine gate_dst (N := 5) rfl ?_); refine Kd.R_lit k27 _ 27 ?hg (N := 5) ?hd (xs := ([] : List (S27))) (inner := []) (ok := fun _ => True) (okp := fun _ => True) ?hr ?hp (fun _ hk => hk) trivial (Below.refl _ _) (Nat.le_refl _) (by simp) ?_; (case hd => rfl); (case hg => rfl); (case hr => first | (go_simp; done) | (go_simp; rfl)); (case hp => exact (Reps.none _ _)); intro v1 w1 ho hb hg_ hnew_; clear hg_ hnew_; have HO := Aside0.mk ho; have HB := Aside0.mk hb; clear ho hb)
        | ((with_reducible refine gate_builtin (b := .append) (xs := #[.tmp 5, .tmp 6]) rfl ?_); at_builtin; refine Kd.R_append_rows k27 (w0 := w) w.heap.size rfl (.tmp 5) (.tmp 6) 23 27 (.agg #[(.int .i64 0), (.int .i64 0)]) 16 rfl Try.underlying23 info27 rfl (by decide) (by omega) v1 ([] : List S27) l0 _ _ _ (fun _ => True) (fun _ => False) rfl rfl HO.out (Kd.C_below HR.out HB.out) (fun _ _ h => h) (fun _ h => h.elim) (fun _ _ => trivial) HB.out (below_size HB.out) (by have := HL.out; simp only [List.length_nil]; omega) ?_; intro v2 w2 ho hb hg hat; rw [List.nil_append] at ho))
      go_ret
      exact ⟨_, rfl, ho, hb⟩
  · rw [if_neg hl] at h; cases h

-- NOT PRINTED: function 38 (impl_Timer_38)

/-! ### impl_TimerDrop: function 13 (given: a text of ours) -/

theorem zv27 : ∀ w, (zeroValue 27).run Try.prog w = .ok (.agg #[.int .i64 0, .int .i64 0]) w := fun w => by
  have hu := Try.underlying27
  go_simp
theorem clear_one (w : World) (ty : TypeId) (b o c : Nat) (hc : ∀ j, j < 2 → (w.cell? ⟨b, o + j, none⟩).isSome = true) (hf : ∀ j, j < 2 → w.frozen? ⟨b, o + j, none⟩ = false) :
    (Builtin.clear_ #[23] ty #[.slice (some ⟨b, o, none⟩) 1 c]).run Try.prog w = .ok (.tuple #[]) (w.setCells b o [.int .i64 0, .int .i64 0]) := by
  have hzc : (Builtin.zeroCells (Value.agg #[.int .i64 0, .int .i64 0]).cells 1).toList = [.int .i64 0, .int .i64 0] := by simp [Builtin.zeroCells, Value.cells, List.range_succ]
  have hst := run_storeCells_cells (P := Try.prog) b o [.int .i64 0, .int .i64 0] 0 w (by simpa using hc) (by simpa using hf) (by intro v hv'; simp at hv'; subst hv'; rfl)
  simp only [Nat.add_zero] at hst
  simp [Builtin.clear_, run_underlying Try.underlying23, zv27, hzc, hst]
set_option maxHeartbeats 4000000 in
set_option maxRecDepth 1000000 in
theorem del_walk (w : World) (g c n k : Nat) (inner : List Value) (cur : Array Value) (hl : inner.length = n * 2) (h1 : ∀ u ∈ inner, u.oneCell' = true) (hh : w.heap[g]? = some (.cells cur 27 (0, 0))) (hnc : n ≤ c) (hm : c ≤ maxLen) (hcs : cur.size = c * 2) (htk : cur.toList.take (n * 2) = inner) (hk : k < n) :
    Calls Try.prog 38 #[.slice (some ⟨g, 0, none⟩) n c, .int .i64 k, .int .i64 (k + 1 : Nat)] w fun e w' => e = .returned (.slice (some ⟨g, 0, none⟩) (n - 1) c) ∧ w' = (w.drew.setCells g (k * 2) (inner.drop ((k + 1) * 2))).setCells g ((n - 1) * 2) [.int .i64 0, .int .i64 0] := by
  have hu := Try.underlying27
  obtain ⟨i0, hi0, hz0, hz1, hz2⟩ := info_parts info27
  have hm' : c ≤ 9223372036854775807 := by unfold maxLen at hm; exact hm
  have hic : k ≤ c := by omega
  have hjc : k + 1 ≤ c := by omega
  have hjb : 0 ≤ (k : Int) + 1 ∧ (k : Int) + 1 ≤ (n : Int) := by omega
  have mixed : Try.prog.follows Departure.mixedOrders = true := by kernel_rfl
  obtain ⟨news, hnews⟩ : ∃ news, news = inner.drop ((k + 1) * 2) := ⟨_, rfl⟩
  have hlen : news.length = (n - (k + 1)) * 2 := by rw [hnews, List.length_drop, hl]; omega
  have hcell : ∀ t u, inner[t]? = some u → w.drew.cell? ⟨g, t, none⟩ = some u := by
    intro t u hu
    have ht : t < n * 2 := by have := (List.getElem?_eq_some_iff.1 hu).1; omega
    rw [← htk, List.getElem?_take_of_lt ht, Array.getElem?_toList] at hu
    exact (blk_cell (w := w) hh t).trans hu
  have hfz : ∀ t, w.drew.frozen? ⟨g, t, none⟩ = false := by intro t; exact blk_frozen (w := w) hh t
  obtain ⟨A, hA, hsrc⟩ : ∃ A : Addr, (if c = k + 1 then some (⟨g, 0, none⟩ : Addr) else some ⟨g, (k + 1) * 2, none⟩) = some A ∧ Aside0 (∀ t u, news[t]? = some u → w.drew.cell? (A.add t) = some u) := by
    by_cases h : c = k + 1
    · refine ⟨⟨g, 0, none⟩, by simp [h], ⟨fun t u hu => ?_⟩⟩
      have h0 : news.length = 0 := by rw [hlen]; omega
      rw [List.length_eq_zero_iff.1 h0] at hu
      simp at hu
    · refine ⟨⟨g, (k + 1) * 2, none⟩, by simp [h], ⟨fun t u hu => ?_⟩⟩
      rw [Addr.add_lit]
      rw [hnews, List.getElem?_drop] at hu
      exact hcell _ _ hu
  have s2 : Aside0 (∀ u ∈ news, u.oneCell' = true) := ⟨by intro u hu; rw [hnews] at hu; exact h1 u (List.mem_of_mem_drop hu)⟩
  have s3 : Aside0 (∀ t, t < news.length → (w.drew.cell? ⟨g, 0 + k * 2 + t, none⟩).isSome = true ∧ w.drew.frozen? ⟨g, 0 + k * 2 + t, none⟩ = false) := ⟨by
    intro t ht
    rw [hlen] at ht
    have hq : 0 + k * 2 + t < inner.length := by omega
    exact ⟨by rw [hcell _ _ (List.getElem?_eq_getElem hq)]; rfl, hfz _⟩⟩
  obtain ⟨W1, hW1⟩ : ∃ W1, W1 = w.drew.setCells g (0 + k * 2) news := ⟨_, rfl⟩
  have hb1 : ∃ cur', W1.heap[g]? = some (.cells cur' 27 (0, 0)) ∧ cur'.size = cur.size := by
    obtain ⟨cur', a, b, _⟩ := setCells_row news (0 + k * 2) w.drew cur hh (by rw [hlen]; omega)
    exact ⟨cur', by rw [hW1]; exact a, b⟩
  have hcl : ∀ ty c', (Builtin.clear_ #[23] ty #[.slice (some ⟨g, (n - 1) * 2, none⟩) 1 c']).run Try.prog W1 = .ok (.tuple #[]) (W1.setCells g ((n - 1) * 2) [.int .i64 0, .int .i64 0]) := by
    obtain ⟨cur', a, b⟩ := hb1
    intro ty c'
    refine clear_one W1 ty g ((n - 1) * 2) c' (fun j hj => ?_) (fun j hj => blk_frozen a _)
    have : (n - 1) * 2 + j < cur'.size := by rw [b]; omega
    rw [blk_cell a, Array.getElem?_eq_getElem this]; rfl
  have hcl2 : ∀ ty, (Builtin.clear_ #[23] ty #[.slice (some ⟨g, (k + (n - (k + 1))) * 2, none⟩) (n - (k + (n - (k + 1)))) (c - (k + (n - (k + 1))))]).run Try.prog W1 = .ok (.tuple #[]) (W1.setCells g ((n - 1) * 2) [.int .i64 0, .int .i64 0]) := fun ty => by
    have e1 : n - (k + (n - (k + 1))) = 1 := by omega
    have e2 : k + (n - (k + 1)) = n - 1 := by omega
    rw [e1, e2]; exact hcl ty _
  clear hcl
  have S1 := Aside0.mk hlen
  have HN := Aside0.mk hnews
  have hW := Aside0.mk hW1
  clear hW1 hlen hnews hcell hfz hb1 htk hh h1 hl hcs
  go_enter Try.func38, Try.ntmps38
  go_wp2_with fail
  go_region_law_o (refine step_append_room rfl (.tmp 22) (.tmp 25) 23 rfl 27 i0 2 Try.underlying23 hi0 hz1 g 0 k c (by simp [Act.eval, Act.put]) A (n - (k + 1)) (c - (k + 1)) news (by simp [Act.eval, Act.put]) S1.out hsrc.out s2.out (by omega) s3.out ?_; rw [← hW.out])
  go_wp2
  go_ret
  refine ⟨?_, ?_⟩
  · rw [show k + (n - (k + 1)) = n - 1 by omega]; rfl
  · rw [hW.out, HN.out, Nat.zero_add]
theorem idx_rng (id : Int) (l : List S27) : ∀ i : Int, idx id l i < i + l.length ∧ (idx id l i = -1 ∨ i ≤ idx id l i) ∨ (idx id l i = -1) := by
  induction l with
  | nil => intro i; exact Or.inr rfl
  | cons x xs ih =>
    intro i
    simp only [idx]
    split
    · refine Or.inl ⟨by simp; omega, Or.inr (Int.le_refl _)⟩
    · rcases ih (i + 1) with ⟨h1, h2⟩ | h
      · refine Or.inl ⟨by simp; omega, by omega⟩
      · exact Or.inr h
set_option maxHeartbeats 2000000 in
theorem del_calls (w : World) (base c n k : Nat) (A : Option Addr) (xs : List S27) (hR : Kd.R k27 27 w base (fun _ => True) (.slice A n c) xs) (hk : k < xs.length) (hbase : base ≤ w.heap.size) :
    Calls Try.prog 38 #[.slice A n c, .int .i64 k, .int .i64 ((k : Int) + 1)] w fun e w' => ∃ v', e = .returned v' ∧ Kd.R k27 27 w' base (fun _ => True) v' (xs.eraseIdx k) ∧ Below base w w' := by
  obtain ⟨_, inner, hown, hrl, hreps⟩ := hR
  rcases hown.2 with ⟨h0, h1⟩ | ⟨g, cap, cur, hv, hb, hh, hnc, hm, hcs, htk⟩
  · omega
  · injection hv with hA hn hc
    subst hA hn hc
    have hi2 : ∀ j, (hj : j < xs.length) → (inner.drop (j * 2)).take 2 = [.int .i64 (xs[j]).f0, .int .i64 (xs[j]).f1] := fun j hj => k27_openM (hreps j _ (List.getElem?_eq_getElem hj))
    have one : ∀ u ∈ inner, u.oneCell' = true := by
      intro u hu
      obtain ⟨t, ht, rfl⟩ := List.mem_iff_getElem.1 hu
      have hrl' : inner.length = xs.length * 2 := hrl
      have hj : t / 2 < xs.length := by omega
      have e := hi2 (t / 2) hj
      have e2 : ((inner.drop (t / 2 * 2)).take 2)[t % 2]? = some inner[t] := by
        rw [List.getElem?_take_of_lt (by omega), List.getElem?_drop, show t / 2 * 2 + t % 2 = t by omega, List.getElem?_eq_getElem ht]
      rw [e] at e2
      rcases (show t % 2 = 0 ∨ t % 2 = 1 by omega) with q | q <;> rw [q] at e2 <;> simp at e2 <;> rw [← e2] <;> rfl
    have hcall := del_walk w g c xs.length k inner cur hrl one hh hnc hm hcs htk hk
    rw [show ((k + 1 : Nat) : Int) = (k : Int) + 1 by omega] at hcall
    have hrl' : inner.length = xs.length * 2 := hrl
    replace hcs : cur.size = c * 2 := hcs
    replace htk : cur.toList.take (xs.length * 2) = inner := htk
    have hel : (xs.eraseIdx k).length = xs.length - 1 := by rw [List.length_eraseIdx, if_pos hk]
    have hlen : (inner.drop ((k + 1) * 2)).length = (xs.length - (k + 1)) * 2 := by rw [List.length_drop]; omega
    have hcl : cur.toList.length = c * 2 := by rw [Array.length_toList]; exact hcs
    obtain ⟨cur1, a1, b1, t1⟩ := setCells_row (inner.drop ((k + 1) * 2)) (k * 2) w.drew cur hh (by rw [hlen]; omega)
    obtain ⟨cur2, a2, b2, t2⟩ := setCells_row [.int .i64 0, .int .i64 0] ((xs.length - 1) * 2) _ cur1 a1 (by rw [b1]; simp only [List.length_cons, List.length_nil]; omega)
    generalize hW : (w.drew.setCells g (k * 2) (inner.drop ((k + 1) * 2))).setCells g ((xs.length - 1) * 2) [.int .i64 0, .int .i64 0] = W at hcall a2
    have hbel : Below base w W := by
      rw [← hW]
      obtain ⟨p1, p2, p3, p4⟩ := setCells_same g [.int .i64 0, .int .i64 0] ((xs.length - 1) * 2) (w.drew.setCells g (k * 2) (inner.drop ((k + 1) * 2)))
      obtain ⟨q1, q2, q3, q4⟩ := setCells_same g (inner.drop ((k + 1) * 2)) (k * 2) w.drew
      exact ⟨p1.trans q1, p2.trans q2, p3.trans q3, by rw [p4, q4]; exact Nat.le_refl _, fun q hq => by rw [setCells_far _ _ q (by omega), setCells_far _ _ q (by omega)]; rfl⟩
    have hin : cur2.toList.take ((xs.length - 1) * 2) = inner.take (k * 2) ++ inner.drop ((k + 1) * 2) := by
      have e0 : cur.toList.take (k * 2) = inner.take (k * 2) := by rw [← htk, List.take_take, Nat.min_eq_left (by omega)]
      have e1 : (cur.toList.take (k * 2) ++ inner.drop ((k + 1) * 2)).length = (xs.length - 1) * 2 := by rw [List.length_append, List.length_take, hcl, hlen]; omega
      rw [t2, t1, List.append_assoc, List.append_assoc, List.take_append_of_le_length (by rw [← List.append_assoc, List.length_take, List.length_append, e1]; omega), List.take_take, Nat.min_self, ← List.append_assoc, List.take_append_of_le_length (by rw [e1]; exact Nat.le_refl _), List.take_of_length_le (by rw [e1]; exact Nat.le_refl _), e0]
    have hR2 : Kd.R k27 27 W base (fun _ => True) (.slice (some ⟨g, 0, none⟩) (xs.length - 1) c) (xs.eraseIdx k) := by
      refine ⟨fun _ _ => trivial, inner.take (k * 2) ++ inner.drop ((k + 1) * 2), ⟨?_, Or.inr ⟨g, c, cur2, by rw [hel], hb, a2, ?_, hm, ?_, ?_⟩⟩, ?_, ?_⟩
      · rw [List.length_append, hlen, List.length_take, hel]; show _ = _ * 2; omega
      · rw [hel]; omega
      · rw [b2, b1]; exact hcs
      · rw [hel]; exact hin
      · rw [List.length_append, hlen, List.length_take, hel]; show _ = _ * 2; omega
      · intro j p hj
        show k27.M W base _ p ((_ : List Value).drop (j * 2) |>.take 2)
        obtain ⟨hj1, hj2⟩ := List.getElem?_eq_some_iff.1 hj
        rw [hel] at hj1
        rw [List.getElem_eraseIdx] at hj2
        have hmk := k27_mkM W base (fun k_ => True ∧ some k_ ≠ (Value.slice (some ⟨g, 0, none⟩) (xs.length - 1) c).ownBlock) p
        by_cases hjk : j < k
        · rw [dif_pos hjk] at hj2
          subst hj2
          have e := hi2 j (by omega)
          have : ((inner.take (k * 2) ++ inner.drop ((k + 1) * 2)).drop (j * 2)).take 2 = (inner.drop (j * 2)).take 2 := by
            rw [List.drop_append_of_le_length (by rw [List.length_take]; omega), List.take_append_of_le_length (by rw [List.length_drop, List.length_take]; omega), List.drop_take, List.take_take, Nat.min_eq_left (by omega)]
          rw [this, e]; exact hmk
        · rw [dif_neg hjk] at hj2
          subst hj2
          have e := hi2 (j + 1) (by omega)
          have : ((inner.take (k * 2) ++ inner.drop ((k + 1) * 2)).drop (j * 2)).take 2 = (inner.drop ((j + 1) * 2)).take 2 := by
            rw [List.drop_append, List.drop_eq_nil_of_le (by rw [List.length_take]; omega), List.nil_append, List.length_take, List.drop_drop]
            congr 2; omega
          rw [this, e]; exact hmk
    refine hcall.mono ?_
    rintro e w' ⟨rfl, rfl⟩
    exact ⟨_, rfl, hR2, hbel⟩
def impl_TimerDrop.f (k : Nat) (l0 : List S27) (a1 : Int) : Option (List S27 × Int) := (impl_timersFault.f k l0).bind fun t => (if t = 0 then ((impl_Timer_31.f l0).bind fun c => (if idx a1 l0 0 < 0 then some (c, 5) else some (c.eraseIdx (idx a1 l0 0).toNat, 0))) else some ([], t))
theorem impl_TimerDrop.mono : ∀ a0 a1 k, LeO (impl_TimerDrop.f k a0 a1) (impl_TimerDrop.f (k + 1) a0 a1) := by
  intro a0 a1 k r h
  unfold impl_TimerDrop.f at h ⊢
  obtain ⟨t, ht, h⟩ := Option.bind_eq_some_iff.mp h
  rw [impl_timersFault.mono _ _ t ht, Option.bind_some]
  exact h
set_option maxHeartbeats 2000000 in
theorem impl_TimerDrop.calls (k : Nat) (A0 : Option Addr) (c0 : Nat) (l0 : List S27) (a1 : Int) (r1 : List S27) (r2 : Int) (w : World) (hr0 : Kd.C k27 w A0 l0.length l0) (hc0 : l0.length ≤ c0) (h : impl_TimerDrop.f k l0 a1 = some (r1, r2)) :
    Calls Try.prog 13 #[.slice A0 l0.length c0, .int .i64 a1] w fun e w' => ∃ v0_ : Value, e = .returned (.tuple #[v0_, .int .i64 r2]) ∧ Kd.R k27 27 w' w.heap.size (fun _ => True) v0_ r1 ∧ Below w.heap.size w w' := by
  unfold impl_TimerDrop.f at h
  obtain ⟨t, ht, h⟩ := Option.bind_eq_some_iff.mp h
  have HF := Aside0.mk (impl_timersFault.calls k A0 c0 l0 t w hr0 hc0 ht)
  clear ht
  by_cases c : t = 0
  · rw [if_pos c] at h
    subst c
    obtain ⟨y, hy, h⟩ := Option.bind_eq_some_iff.mp h
    have hlim : l0.length < 8796093022208 := by
      unfold impl_Timer_31.f at hy
      split at hy
      · assumption
      · cases hy
    have hyl : y = l0 := by unfold impl_Timer_31.f at hy; rw [if_pos hlim] at hy; exact (Option.some.inj hy).symm
    subst hyl
    have HCL := Aside0.mk (fun W (hW : Kd.C k27 W A0 y.length y) => impl_Timer_31.calls A0 c0 y y W hW hc0 hy)
    have HTA := Aside0.mk (fun W (hW : Kd.C k27 W A0 y.length y) => impl_timerAt.calls A0 c0 y a1 (idx a1 y 0) W hW hc0 rfl)
    have HC := Aside0.mk (fun W (hW : Below w.heap.size w W) => Kd.C_below hr0 hW)
    have HRNG := Aside0.mk (idx_rng a1 y 0)
    clear hr0 hc0 hy
    generalize idx a1 y 0 = q at h HTA HRNG
    by_cases hq : q < 0
    · rw [if_pos hq] at h
      obtain ⟨rfl, rfl⟩ := Prod.mk.inj (Option.some.inj h)
      clear h
      have hqb : decide (q < 0) = true := decide_eq_true hq
      go_enter Try.func13, Try.ntmps13
      go_wp2_with (first
        | (go_at_call 28; refine HF.out.mono ?_; rintro e w1 ⟨rfl, hb1⟩; have HB1 := Aside0.mk hb1; clear hb1)
        | (go_at_call 31; refine (HCL.out _ (HC.out _ HB1.out)).mono ?_; rintro e w2 ⟨v, rfl, hR, hb2⟩; have HR := Aside0.mk hR; have HB2 := Aside0.mk hb2; clear hR hb2)
        | (go_at_call 37; refine (HTA.out _ (HC.out _ (HB1.out.trans (HB2.out.mono HB1.out.size)))).mono ?_; rintro e w3 ⟨rfl, hb3⟩; have HB3 := Aside0.mk hb3; clear hb3))
      go_ret2
      exact ⟨_, rfl, Kd.R_lower (Kd.R_below HR.out HB3.out) HB1.out.size, (HB1.out.trans (HB2.out.mono HB1.out.size)).trans (HB3.out.mono (HB1.out.trans (HB2.out.mono HB1.out.size)).size)⟩
    · rw [if_neg hq] at h
      obtain ⟨rfl, rfl⟩ := Prod.mk.inj (Option.some.inj h)
      clear h
      have hqb : decide (q < 0) = false := decide_eq_false hq
      obtain ⟨n0, rfl⟩ : ∃ n0 : Nat, q = n0 := ⟨q.toNat, by omega⟩
      have hlt : n0 < y.length := by rcases HRNG.out with ⟨h1, _⟩ | h1 <;> omega
      have hk1 : IntKind.i64.wrap ((n0 : Int) + 1) = (n0 : Int) + 1 := by rw [i64_w]; unfold wrap64; omega
      go_enter Try.func13, Try.ntmps13
      go_wp2_with (first
        | (go_at_call 28; refine HF.out.mono ?_; rintro e w1 ⟨rfl, hb1⟩; have HB1 := Aside0.mk hb1; clear hb1)
        | (go_at_call 31; refine (HCL.out _ (HC.out _ HB1.out)).mono ?_; rintro e w2 ⟨v, rfl, hR, hb2⟩; obtain ⟨A2, c2, rfl⟩ := Kd.R_slice hR; have HR := Aside0.mk hR; have HB2 := Aside0.mk hb2; clear hR hb2)
        | (go_at_call 37; refine (HTA.out _ (HC.out _ (HB1.out.trans (HB2.out.mono HB1.out.size)))).mono ?_; rintro e w3 ⟨rfl, hb3⟩; have HB3 := Aside0.mk hb3; clear hb3)
        | (go_at_call 38; refine (del_calls _ _ c2 y.length n0 A2 y (Kd.R_lower (Kd.R_below HR.out HB3.out) HB1.out.size) hlt (HB1.out.trans ((HB2.out.mono HB1.out.size).trans (HB3.out.mono (HB1.out.trans (HB2.out.mono HB1.out.size)).size))).size).mono ?_; rintro e w4 ⟨v4, rfl, hR4, hb4⟩))
      go_ret2
      exact ⟨_, rfl, hR4, ((HB1.out.trans (HB2.out.mono HB1.out.size)).trans (HB3.out.mono (HB1.out.trans (HB2.out.mono HB1.out.size)).size)).trans hb4⟩
  · rw [if_neg c] at h
    obtain ⟨rfl, rfl⟩ := Prod.mk.inj (Option.some.inj h)
    clear h hr0 hc0
    have cb : (t != 0) = true := bne_iff_ne.mpr c
    go_enter Try.func13, Try.ntmps13
    go_wp2_with (go_at_call 28; refine HF.out.mono ?_; rintro e w1 ⟨rfl, hb1⟩)
    go_ret2
    exact ⟨_, rfl, Kd.R_nil _ _ _ _ _, hb1⟩

/-! ### laws_szTimerS: function 16 -/
def laws_szTimerS.f (l0 : List (S43)) (a1 : Int) : Option (Int) := if (wrap64 (a1 - (l0.length : Int))) < 0 then (some (-1)) else (some (wrap64 (a1 - (l0.length : Int))))
set_option maxHeartbeats 8000000 in
set_option maxRecDepth 100000 in
theorem laws_szTimerS.calls (A0 : Option Addr) (c0 : Nat) (l0 : List (S43)) (a1 : Int) (r : Int) (w : World) (hr0 : Kd.C k43 w A0 l0.length l0) (hc0 : l0.length ≤ c0) (h : laws_szTimerS.f l0 a1 = some r) :
    Calls Try.prog 16 #[.slice A0 l0.length c0, .int .i64 a1] w fun e w' => e = .returned (.int .i64 r) ∧ Drawn0 w w' := by
  have HR0 := Aside0.mk hr0
  have HC0 := Aside0.mk hc0
  clear hr0 hc0
  have H : (if (wrap64 (a1 - (l0.length : Int))) < 0 then (some (-1)) else (some (wrap64 (a1 - (l0.length : Int))))) = some r := h
  clear h
  by_cases c3 : (wrap64 (a1 - (l0.length : Int))) < 0
  · rw [if_pos c3] at H
    have c3b0 : decide ((wrap64 (a1 - (l0.length : Int))) < 0) = true := decide_eq_true c3
    clear c3
    obtain rfl := Option.some.inj H
    go_enter Try.func16, Try.ntmps16
    go_wp2
    go_ret
    exact ⟨by first | rfl | (simp; done) | (simp [*]; done), by repeat (first | exact Drawn0.refl _ | apply Drawn0.step)⟩
  · rw [if_neg c3] at H
    have c3b0 : decide ((wrap64 (a1 - (l0.length : Int))) < 0) = false := decide_eq_false c3
    clear c3
    obtain rfl := Option.some.inj H
    go_enter Try.func16, Try.ntmps16
    go_wp2
    go_ret
    exact ⟨by first | rfl | (simp; done) | (simp [*]; done), by repeat (first | exact Drawn0.refl _ | apply Drawn0.step)⟩

/-! ### spec_l01In: function 47 -/
def spec_l01In.f (a0 : Int) (a1 : Int) (a2 : Int) : Option (Bool) := if a1 ≤ a0 then (some (decide (a0 ≤ a2))) else (some false)
set_option maxHeartbeats 8000000 in
set_option maxRecDepth 100000 in
theorem spec_l01In.calls (a0 : Int) (a1 : Int) (a2 : Int) (r : Bool) (w : World) (h : spec_l01In.f a0 a1 a2 = some r) :
    Calls Try.prog 47 #[.int .i64 a0, .int .i64 a1, .int .i64 a2] w fun e w' => e = .returned (.bool r) ∧ Drawn0 w w' := by
  have H : (if a1 ≤ a0 then (some (decide (a0 ≤ a2))) else (some false)) = some r := h
  clear h
  by_cases c4 : a1 ≤ a0
  · rw [if_pos c4] at H
    have c4b0 : decide (a1 ≤ a0) = true := decide_eq_true c4
    clear c4
    obtain rfl := Option.some.inj H
    go_enter Try.func47, Try.ntmps47
    go_wp2
    go_ret
    exact ⟨by first | rfl | (simp; done) | (simp [*]; done), by repeat (first | exact Drawn0.refl _ | apply Drawn0.step)⟩
  · rw [if_neg c4] at H
    have c4b0 : decide (a1 ≤ a0) = false := decide_eq_false c4
    clear c4
    obtain rfl := Option.some.inj H
    go_enter Try.func47, Try.ntmps47
    go_wp2
    go_ret
    exact ⟨by first | rfl | (simp; done) | (simp [*]; done), by repeat (first | exact Drawn0.refl _ | apply Drawn0.step)⟩

end Go.Proofs.Ytnofpkbihecabaa.PTr
