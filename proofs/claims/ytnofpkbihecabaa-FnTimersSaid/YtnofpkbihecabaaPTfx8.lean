-- Printed by this session's own program (wip/tools/myprint.py over the kit's print, out of the translation). Nothing here is trusted: Lean checks it.
import Derived.Test.YtnofpkbihecabaaPTfx0
import Derived.Test.YtnofpkbihecabaaPTfx5
import Derived.Test.YtnofpkbihecabaaPTfx6
import Derived.Test.YtnofpkbihecabaaPTfx7
namespace Go.Proofs.Ytnofpkbihecabaa.PTf
open Go.RowKit Go.Proofs.YtnofpkbihecabaaW.PrintWords Go.Proofs.YtnofpkbihecabaaW.PrintLast Go.Proofs.YtnofpkbihecabaaW.PrintMore
attribute [local go_sem] w64_u8 w64_u8_4 max2_int min2_int max_two min_two max_three min_three max_four min_four   -- for this text's walks alone
set_option linter.unusedVariables false
set_option linter.unusedSimpArgs false

-- NOT PRINTED: function 30 (impl_Timer_30)

/-! ### impl_Timer_31: function 31 (given: a text of ours) -/

def impl_Timer_31.f (l0 : List S27) : Option (List S27) := if l0.length < 8796093022208 then some l0 else none
set_option maxHeartbeats 2000000 in
theorem impl_Timer_31.calls (A0 : Option Addr) (c0 : Nat) (l0 : List S27) (r : List S27) (w : World) (hr0 : Kd.C k27 w A0 l0.length l0) (hc0 : l0.length ≤ c0) (h : impl_Timer_31.f l0 = some r) :
  Calls Try.prog 31 #[.slice A0 l0.length c0] w fun e w' => ∃ v0_ : Value, e = .returned (v0_) ∧ Kd.R k27 27 w' w.heap.size (fun _ => True) v0_ r ∧ Below w.heap.size w w' := by
 unfold impl_Timer_31.f at h
 by_cases hl : l0.length < 8796093022208
 ·rw [if_pos hl] at h
  obtain rfl := Option.some.inj h
  clear h
  have hu := Try.underlying27
  have q23 : ∀ (w : World) (a : Option Addr) (n c n' c' : Nat), (binOp .eql 23 (.slice a n c) (.slice none n' c')).run Try.prog w = .ok (.bool a.isNone) w := fun w a n c n' c' => Lib.run_eql_slice_nil w _ _ a n c n' c' Try.underlying23
  cases A0 with
  | none =>
   have h0 : l0.length = 0 := by
    rcases Nat.eq_zero_or_pos l0.length with h | h
    ·exact h
    ·obtain ⟨ad, e, _⟩ := hr0.2.2 h; cases e
   obtain rfl := List.eq_nil_of_length_eq_zero h0
   clear h0 hr0 hl
   go_enter Try.func31, Try.ntmps31
   go_wp2
   go_ret
   exact ⟨_, rfl, Kd.R_nil _ _ _ _ _, Below.refl _ _⟩
  | some ad =>
   have HR := Aside0.mk hr0
   have HL := Aside0.mk hl
   clear hr0 hl
   go_enter Try.func31, Try.ntmps31
   go_wp2_with (first
    | ((with_reducible refine gate_dst (N := 5) rfl ?_); refine Kd.R_lit k27 _ 27 ?hg (N := 5) ?hd (xs := ([] : List (S27))) (inner := []) (ok := fun _ => True) (okp := fun _ => True) ?hr ?hp (fun _ hk => hk) trivial (Below.refl _ _) (Nat.le_refl _) (by simp) ?_; (case hd => rfl); (case hg => rfl); (case hr => first | (go_simp; done) | (go_simp; rfl)); (case hp => exact (Reps.none _ _)); intro v1 w1 ho hb hg_ hnew_; clear hg_ hnew_; have HO := Aside0.mk ho; have HB := Aside0.mk hb; clear ho hb)
    | ((with_reducible refine gate_builtin (b := .append) (xs := #[.tmp 5, .tmp 6]) rfl ?_); at_builtin; refine Kd.R_append_rows k27 (w0 := w) w.heap.size rfl (.tmp 5) (.tmp 6) 23 27 (.agg #[(.int .i64 0), (.int .i64 0)]) 16 rfl Try.underlying23 info27 rfl (by decide) (by omega) v1 ([] : List S27) l0 _ _ _ (fun _ => True) (fun _ => False) rfl rfl HO.out (Kd.C_below HR.out HB.out) (fun _ _ h => h) (fun _ h => h.elim) (fun _ _ => trivial) HB.out (below_size HB.out) (by have := HL.out; simp only [List.length_nil]; omega) ?_; intro v2 w2 ho hb hg hat; rw [List.nil_append] at ho))
   go_ret
   exact ⟨_, rfl, ho, hb⟩
 ·rw [if_neg hl] at h; cases h

-- NOT PRINTED: function 50 (impl_Timer_50)

-- NOT PRINTED: function 61 (impl_Timer_61)

-- NOT PRINTED: function 51 (impl_Timer_51)

-- NOT PRINTED: function 58 (bits_Len32)

-- NOT PRINTED: function 59 (bits_Len64)

-- NOT PRINTED: function 44 (bits_Len)

-- NOT PRINTED: function 62 (slices_nextPowerOfTwo)

-- NOT PRINTED: function 63 (slices_xorshift_Next)

-- NOT PRINTED: function 52 (impl_Timer_52)

-- NOT PRINTED: function 66 (impl_Timer_66)

-- NOT PRINTED: function 65 (impl_Timer_65)

-- NOT PRINTED: function 64 (impl_Timer_64)

-- NOT PRINTED: function 53 (impl_Timer_53)

-- NOT PRINTED: function 54 (impl_Timer_54)

-- NOT PRINTED: function 55 (impl_Timer_55)

-- NOT PRINTED: function 56 (impl_Timer_56)

-- NOT PRINTED: function 57 (impl_Timer_57)

-- NOT PRINTED: function 43 (impl_Timer_43)

-- NOT PRINTED: function 33 (impl_Timer_33)

/-! ### impl_TimerPut: function 9 (given: a text of ours) -/

theorem eg32 : ∀ args w, (callFunc 32 args).run Try.prog w = .ok (.enter 32 args) w := enters_of Try.func32 (by kernel_rfl) rfl
/-- The closure: is it of this id? -/
theorem pred32 (t : Int) (B : Nat) (W : World) (x : S27) (hB : B < W.heap.size) (hc : W.cell? ⟨B, 1, none⟩ = some (.int .i64 t)) :
  Calls Try.prog 32 (#[.agg #[.int .i64 x.f0, .int .i64 x.f1]] ++ #[.pointer (some ⟨B, 0, none⟩)]) W fun e w' => e = .returned (.bool (x.f1 == t)) ∧ w' = W.alloc (.cells #[.int .i64 x.f0, .int .i64 x.f1] 27) := by
 have hne : B ≠ W.heap.size := by omega
 show Calls Try.prog 32 #[.agg #[.int .i64 x.f0, .int .i64 x.f1], .pointer (some ⟨B, 0, none⟩)] W _
 go_enter Try.func32, Try.ntmps32
 go_wp2
 all_goals (go_ret; exact ⟨by simp_all, rfl⟩)
set_option maxHeartbeats 2000000 in
theorem index42b (A : Option Addr) (c : Nat) (l : List S27) (id : Int) (B : Nat) (w : World) (hr : Kd.C k27 w A l.length l) (hB : B < w.heap.size) (hcell : w.cell? ⟨B, 1, none⟩ = some (.int .i64 id)) :
  Calls Try.prog 42 #[.slice A l.length c, .func (.func 32) #[] #[.pointer (some ⟨B, 0, none⟩)]] w fun e w' => e = .returned (.int .i64 (idx id l 0)) ∧ Below w.heap.size w w' := by
 have hu := Try.underlying27
 have ha := Try.isAgg27
 have hz := Try.sizeOf27
 have eg := eg32
 have hmax : l.length ≤ 9223372036854775807 := hr.2.1
 have hrow : ∀ (W : World), Below w.heap.size w W → ∀ j, (hj : j < l.length) → ∃ ad, A = some ad ∧ W.cell? (ad.add (j * 2)) = some (.int .i64 (l[j]).f0) ∧ W.cell? ⟨(ad.add (j * 2)).block, (ad.add (j * 2)).off + 1, none⟩ = some (.int .i64 (l[j]).f1) := fun W hW j hj => by
  obtain ⟨ad, e, h0, h1⟩ := at_T27 (Kd.C_below hr hW) (j : Int) (by omega) (by omega)
  have hrd : rd_T27 l (j : Int) = l[j] := by simp [rd_T27, List.getD_eq_getElem?_getD, hj]
  rw [Int.toNat_natCast, hrd] at h0 h1
  exact ⟨ad, e, h0, h1⟩
 have HROW := Aside0.mk hrow
 clear hrow hr
 go_enter Try.func42, Try.ntmps42
 go_wp2
 go_loopg [5, 8] l.length (fun gg _ s8 wr => ∃ kk : Nat, kk ≤ l.length ∧ l.length - kk ≤ gg ∧ s8 = .int .i64 kk ∧ Aside0 (Below w.heap.size w wr) ∧ Aside0 (∀ j (hj : j < l.length), j < kk → (l[j]).f1 ≠ id))
 case atStart => exact ⟨0, Nat.zero_le _, by omega, rfl, ⟨Below.refl _ w⟩, ⟨fun j hj h => absurd h (Nat.not_lt_zero _)⟩⟩
 case round =>
  obtain ⟨kk, hkk, hg, rfl, BW, AA⟩ := hrel
  by_cases hlt : kk < l.length
  ·have hltz : (kk : Int) < (l.length : Int) := by omega
   obtain ⟨ad, rfl, l2, l3⟩ := HROW.out wr BW.out kk hlt
   have hcall := pred32 id B wr l[kk] (Nat.lt_of_lt_of_le hB BW.out.size) ((BW.out.cell (p := ⟨B, 1, none⟩) hB).trans hcell)
   generalize hy : l[kk] = y at l2 l3 hcall
   have HY := Aside0.mk hy
   clear hy
   cases hq : y.f1 == id with
   | true =>
    rw [hq] at hcall
    go_wp2_with (go_at_fn 32; refine hcall.mono ?_; rintro e w' ⟨rfl, rfl⟩)
    go_ret
    refine ⟨?_, BW.out.alloc BW.out.size _⟩
    rw [idx_hit id l kk 0 hlt (by rw [HY.out]; exact eq_of_beq hq) AA.out]
    simp
   | false =>
    rw [hq] at hcall
    go_wp2_with (go_at_fn 32; refine hcall.mono ?_; rintro e w' ⟨rfl, rfl⟩)
    go_roundg (l.length - (kk + 1))
    case measure => omega
    case rel =>
     refine ⟨kk + 1, by omega, by omega, by go_num, ⟨BW.out.alloc BW.out.size _⟩, ⟨fun j hj hjk => ?_⟩⟩
     by_cases e : j = kk
     ·subst e
      rw [HY.out]; intro h; rw [h] at hq; simp at hq
     ·exact AA.out j hj (by omega)
  ·have hltz : ¬ (kk : Int) < (l.length : Int) := by omega
   have hkl : kk = l.length := by omega
   clear hlt
   have hltd : decide ((kk : Int) < (l.length : Int)) = false := decide_eq_false hltz
   go_wp2
   go_ret
   refine ⟨?_, BW.out⟩
   subst hkl
   rw [idx_miss id l 0 (fun j hj => AA.out j hj hj)]
   try rfl
theorem zvp27 : ∀ w, (zeroValue 27).run Try.prog w = .ok (.agg #[.int .i64 0, .int .i64 0]) w := fun w => by
 have hu := Try.underlying27
 go_simp
theorem clear_onep (w : World) (ty : TypeId) (b o c : Nat) (hc : ∀ j, j < 2 → (w.cell? ⟨b, o + j, none⟩).isSome = true) (hf : ∀ j, j < 2 → w.frozen? ⟨b, o + j, none⟩ = false) :
  (Builtin.clear_ #[23] ty #[.slice (some ⟨b, o, none⟩) 1 c]).run Try.prog w = .ok (.tuple #[]) (w.setCells b o [.int .i64 0, .int .i64 0]) := by
 have hzc : (Builtin.zeroCells (Value.agg #[.int .i64 0, .int .i64 0]).cells 1).toList = [.int .i64 0, .int .i64 0] := by simp [Builtin.zeroCells, Value.cells, List.range_succ]
 have hst := run_storeCells_cells (P := Try.prog) b o [.int .i64 0, .int .i64 0] 0 w (by simpa using hc) (by simpa using hf) (by intro v hv'; simp at hv'; subst hv'; rfl)
 simp only [Nat.add_zero] at hst
 simp [Builtin.clear_, run_underlying Try.underlying23, zvp27, hzc, hst]
/-- What the row holds while the elements behind the struck one are moved down. -/
def mv (xs : List S27) (p ii : Nat) : List S27 := (xs.eraseIdx p).take ii ++ xs.drop ii
theorem mv_len (xs : List S27) (p ii : Nat) (hp : p < xs.length) (hi : ii < xs.length) : (mv xs p ii).length = xs.length := by
 unfold mv
 rw [List.length_append, List.length_take, List.length_drop, List.length_eraseIdx, if_pos hp]; omega
theorem mv_at (xs : List S27) (p ii : Nat) (hp : p < xs.length) (hi : ii + 1 < xs.length) : (mv xs p ii).getD (ii + 1) z27 = xs[ii + 1] := by
 unfold mv
 have hl : ((xs.eraseIdx p).take ii).length = ii := by rw [List.length_take, List.length_eraseIdx, if_pos hp]; omega
 rw [List.getD_eq_getElem?_getD, List.getElem?_append_right (by omega), hl, List.getElem?_drop, show ii + (ii + 1 - ii) = ii + 1 by omega, List.getElem?_eq_getElem hi]; rfl
theorem mv_set (xs : List S27) (p ii : Nat) (hp : p ≤ ii) (hi : ii + 1 < xs.length) : (mv xs p ii).set ii xs[ii + 1] = mv xs p (ii + 1) := by
 have hpx : p < xs.length := by omega
 have hel : (xs.eraseIdx p).length = xs.length - 1 := by rw [List.length_eraseIdx, if_pos hpx]
 unfold mv
 have hl : ((xs.eraseIdx p).take ii).length = ii := by rw [List.length_take, hel]; omega
 rw [List.set_append_right _ _ (by omega), hl, Nat.sub_self, List.take_succ_eq_append_getElem (by omega), List.drop_eq_getElem_cons (by omega)]
 rw [List.getElem_eraseIdx_of_ge (h' := hp), List.set_cons_zero]; simp
theorem mv_end (xs : List S27) (p : Nat) (hp : p < xs.length) : (mv xs p (xs.length - 1)).take (xs.length - 1) = xs.eraseIdx p := by
 have hel : (xs.eraseIdx p).length = xs.length - 1 := by rw [List.length_eraseIdx, if_pos hp]
 unfold mv
 rw [List.take_append_of_le_length (by rw [List.length_take]; omega), List.take_take, Nat.min_self, List.take_of_length_le (by omega)]
theorem mv_start (xs : List S27) (p : Nat) (hp : p < xs.length) : mv xs p p = xs := by
 unfold mv
 have : (xs.eraseIdx p).take p = xs.take p := by
  rw [List.eraseIdx_eq_take_drop_succ, List.take_append_of_le_length (by rw [List.length_take]; omega), List.take_take, Nat.min_self]
 rw [this, List.take_append_drop]
theorem below_setCells {base : Nat} {w W : World} (h : Below base w W) (g o : Nat) (vs : List Value) (hg : base ≤ g) : Below base w (W.setCells g o vs) := by
 obtain ⟨p1, p2, p3, p4⟩ := setCells_same g vs o W
 obtain ⟨a, b, c, d, e⟩ := h
 exact ⟨p1.trans a, p2.trans b, p3.trans c, by rw [p4]; exact d, fun q hq => by rw [setCells_far vs o q (by omega)]; exact e q hq⟩
set_option maxHeartbeats 4000000 in
set_option maxRecDepth 100000 in
theorem delfunc30 (t : Int) (B base c g : Nat) (xs : List S27) (p : Nat) (w : World)
  (hR : Kd.R k27 27 w base (fun _ => True) (.slice (some ⟨g, 0, none⟩) xs.length c) xs) (hg : base ≤ g) (hgw : g < w.heap.size) (hnc : xs.length ≤ c) (hm : c ≤ 9223372036854775807)
  (hbase : base ≤ w.heap.size) (hB : B < base) (hcell : w.cell? ⟨B, 1, none⟩ = some (.int .i64 t)) (hp : p < xs.length) (hidx : idx t xs 0 = p) (hother : ∀ j (hj : j < xs.length), j ≠ p → (xs[j]).f1 ≠ t) :
  Calls Try.prog 30 #[.slice (some ⟨g, 0, none⟩) xs.length c, .func (.func 32) #[] #[.pointer (some ⟨B, 0, none⟩)]] w fun e w' => e = .returned (.slice (some ⟨g, 0, none⟩) (xs.length - 1) c) ∧ Kd.R k27 27 w' base (fun _ => True) (.slice (some ⟨g, 0, none⟩) (xs.length - 1) c) (xs.eraseIdx p) ∧ Below base w w' := by
 have hu := Try.underlying27
 have ha := Try.isAgg27
 have hz := Try.sizeOf27
 have eg := eg32
 obtain ⟨i0, hi0, hz0, hz1, hz2⟩ := info_parts info27
 have hI := index42b (some ⟨g, 0, none⟩) c xs t B w (Kd.R_reads' hR).2.2 (by omega) hcell
 rw [hidx] at hI
 have HI := Aside0.mk hI
 have HR := Aside0.mk hR
 have HO := Aside0.mk hother
 have hmax : (xs.length : Int) ≤ 9223372036854775807 := by omega
 have hne1 : ¬ ((p : Int) = -1) := by omega
 have hpn : wrap64 ((p : Int) + 1) = ((p + 1 : Nat) : Int) := by rw [show wrap64 ((p : Int) + 1) = (p : Int) + 1 by unfold wrap64; omega]; omega
 clear hI hR hother hidx
 go_enter Try.func30, Try.ntmps30
 go_wp2_with (go_at_call 42; refine HI.out.mono ?_; rintro e w1 ⟨rfl, hb⟩; have HB := Aside0.mk hb; clear hb)
 go_loopg [5, 6] xs.length (fun gg s5 s6 wr => ∃ ii : Nat, p ≤ ii ∧ ii < xs.length ∧ xs.length - ii ≤ gg ∧ s5 = .int .i64 ii ∧ s6 = .int .i64 ((ii + 1 : Nat) : Int) ∧ Aside0 (Kd.R k27 27 wr base (fun _ => True) (.slice (some ⟨g, 0, none⟩) xs.length c) (mv xs p ii)) ∧ Aside0 (Below base w wr) ∧ Aside0 (g < wr.heap.size))
 case atStart => exact ⟨p, Nat.le_refl _, hp, by omega, rfl, by first | rfl | (simp only [hpn]) | (congr 1), ⟨by rw [mv_start xs p hp]; exact Kd.R_below HR.out HB.out⟩, ⟨HB.out.mono hbase⟩, ⟨Nat.lt_of_lt_of_le hgw HB.out.size⟩⟩
 case round =>
  obtain ⟨ii, hpi, hin, hgg, rfl, rfl, RR, BW, GW⟩ := hrel
  have hbase' : base ≤ wr.heap.size := by have := GW.out; omega
  by_cases hlt : ii + 1 < xs.length
  ·have hltz : ((ii + 1 : Nat) : Int) < (xs.length : Int) := by omega
   have hlen := mv_len xs p ii hp hin
   have hat := mv_at xs p ii hp hlt
   obtain ⟨ce, hcl, hM, hcc, hfr⟩ := Kd.R_elem RR.out z27 ((ii + 1 : Nat) : Int) (by omega) hltz
   rw [Int.toNat_natCast, hat] at hM
   obtain rfl := k27_openM hM
   have hx0 : wr.cell? ⟨g, (ii + 1) * 2, none⟩ = some (.int .i64 (xs[ii + 1]).f0) := hcc 0 _ rfl
   have hx1 : wr.cell? ⟨g, (ii + 1) * 2 + 1, none⟩ = some (.int .i64 (xs[ii + 1]).f1) := hcc 1 _ rfl
   have hq : ((xs[ii + 1]).f1 == t) = false := by simpa using HO.out (ii + 1) hlt (by omega)
   have hgz := GW.out
   have hBr : B < wr.heap.size := by omega
   have hbc : wr.cell? ⟨B, 1, none⟩ = some (.int .i64 t) := (BW.out.cell (p := ⟨B, 1, none⟩) hB).trans hcell
   obtain ⟨y, hyv⟩ : ∃ y, xs[ii + 1] = y := ⟨_, rfl⟩
   rw [hyv] at hx0 hx1 hq
   have hpred := pred32 t B (wr.alloc (.cells #[.int .i64 y.f0, .int .i64 y.f1] 27)) y (by simp; omega) ((((Below.refl wr.heap.size wr).alloc (Nat.le_refl _) _).cell (p := ⟨B, 1, none⟩) hBr).trans hbc)
   rw [hq] at hpred
   have R2 := Kd.R_alloc (Kd.R_alloc RR.out (.cells #[.int .i64 y.f0, .int .i64 y.f1] 27)) (.cells #[.int .i64 y.f0, .int .i64 y.f1] 27)
   have hb2 : Below base w ((wr.alloc (.cells #[.int .i64 y.f0, .int .i64 y.f1] 27)).alloc (.cells #[.int .i64 y.f0, .int .i64 y.f1] 27)) := (BW.out.alloc (Nat.le_trans hbase' (Nat.le_refl _)) _).alloc (by simp; omega) _
   have hv0 : ((wr.alloc (.cells #[.int .i64 y.f0, .int .i64 y.f1] 27)).alloc (.cells #[.int .i64 y.f0, .int .i64 y.f1] 27)).cell? ⟨wr.heap.size, 0, none⟩ = some (.int .i64 y.f0) := (((Below.refl _ _).alloc (Nat.le_refl _) _).cell (p := ⟨wr.heap.size, 0, none⟩) (by simp)).trans (by simp)
   have hv1 : ((wr.alloc (.cells #[.int .i64 y.f0, .int .i64 y.f1] 27)).alloc (.cells #[.int .i64 y.f0, .int .i64 y.f1] 27)).cell? ⟨wr.heap.size, 1, none⟩ = some (.int .i64 y.f1) := (((Below.refl _ _).alloc (Nat.le_refl _) _).cell (p := ⟨wr.heap.size, 1, none⟩) (by simp)).trans (by simp)
   have hs3 : g < ((wr.alloc (.cells #[.int .i64 y.f0, .int .i64 y.f1] 27)).alloc (.cells #[.int .i64 y.f0, .int .i64 y.f1] 27)).heap.size := by simp; omega
   generalize (wr.alloc (.cells #[.int .i64 y.f0, .int .i64 y.f1] 27)).alloc (.cells #[.int .i64 y.f0, .int .i64 y.f1] 27) = W3 at hpred R2 hb2 hv0 hv1 hs3
   obtain ⟨de, dcl, dM, dcc, dfr⟩ := Kd.R_elem R2 z27 (ii : Int) (by omega) (by omega)
   obtain rfl := k27_openM dM
   have hy0 := dcc 0 _ rfl
   have hy1 := dcc 1 _ rfl
   have hf0 := dfr 0
   have hf1 := dfr 1
   have HS := Aside0.mk (Kd.R_seg R2 (ii : Int) (by omega) (by omega) (seg := [.int .i64 y.f0, .int .i64 y.f1]) (j := 0) dcl dcc (show 2 ≤ 2 from by decide) (x' := y) (k27_mkM _ _ _ y) (fun _ hk => hk))
   simp only [show (k27).sz = 2 from rfl, Int.toNat_natCast, Nat.add_zero] at hy0 hy1 hf0 hf1
   have HSet := Aside0.mk (mv_set xs p ii hpi hlt)
   rw [hyv] at HSet
   have HSet' : (mv xs p ii).set (ii : Int).toNat y = mv xs p (ii + 1) := HSet.out
   have HP := Aside0.mk hpred
   have HB2 := Aside0.mk hb2
   have HS3 := Aside0.mk hs3
   have HSE := Aside0.mk HSet'
   clear hcl hM hcc hfr dcl dM dcc dfr hat hpred hb2 hs3 R2 HSet'
   go_wp2_with (first
    | (go_at_fn 32; refine HP.out.mono ?_; rintro e w' ⟨rfl, rfl⟩))
   go_roundg (xs.length - (ii + 1))
   case measure => omega
   case rel => exact ⟨ii + 1, by omega, hlt, by omega, by go_num, by go_num, ⟨by have z := HS.out.1; rw [HSE.out, Int.toNat_natCast] at z; exact z⟩, ⟨below_setCells HB2.out g _ [_, _] hg⟩, ⟨by simpa using HS3.out⟩⟩
  ·have hltz : ¬ ((ii + 1 : Nat) : Int) < (xs.length : Int) := by omega
   have hie : ii = xs.length - 1 := by omega
   have hlen := mv_len xs p ii hp hin
   obtain ⟨de, dcl, dM, dcc, dfr⟩ := Kd.R_elem RR.out z27 (ii : Int) (by omega) (by omega)
   obtain rfl := k27_openM dM
   have HS := Aside0.mk (Kd.R_seg RR.out (ii : Int) (by omega) (by omega) (seg := [.int .i64 0, .int .i64 0]) (j := 0) dcl dcc (show 2 ≤ 2 from by decide) (x' := z27) (k27_mkM _ _ _ z27) (fun _ hk => hk))
   have hcl : ∀ ty c', (Builtin.clear_ #[23] ty #[.slice (some ⟨g, ii * 2, none⟩) 1 c']).run Try.prog wr = .ok (.tuple #[]) (wr.setCells g (ii * 2) [.int .i64 0, .int .i64 0]) := fun ty c' => by
    refine clear_onep wr ty g (ii * 2) c' (fun j hj => ?_) (fun j hj => ?_)
    ·rcases (show j = 0 ∨ j = 1 by omega) with q | q
     ·subst q; have z := dcc 0 _ rfl; rw [Int.toNat_natCast] at z; rw [show wr.cell? ⟨g, ii * 2 + 0, none⟩ = _ from z]; rfl
     ·subst q; have z := dcc 1 _ rfl; rw [Int.toNat_natCast] at z; rw [show wr.cell? ⟨g, ii * 2 + 1, none⟩ = _ from z]; rfl
    ·have z := dfr j; rw [Int.toNat_natCast] at z; exact z
   have hn1 : xs.length - ii = 1 := by omega
   have hcne : ¬ c = ii := by omega
   have hic : ii ≤ c := by omega
   have hcl2 : ∀ ty c', (Builtin.clear_ #[23] ty #[.slice (some ⟨g, ii * 2, none⟩) (xs.length - ii) c']).run Try.prog wr = .ok (.tuple #[]) (wr.setCells g (ii * 2) [.int .i64 0, .int .i64 0]) := fun ty c' => by rw [hn1]; exact hcl ty c'
   have HE := Aside0.mk (mv_end xs p hp)
   have hb3 : Below base w (wr.setCells g (ii * 2) [.int .i64 0, .int .i64 0]) := below_setCells BW.out g _ _ hg
   have HB3 := Aside0.mk hb3
   have HIE := Aside0.mk hie
   clear dcl dM dcc dfr hb3 hie
   go_wp2
   go_ret
   have hie := HIE.out
   subst hie
   refine ⟨by first | rfl | (simp; done) | (congr 2; omega), ?_, HB3.out⟩
   have z := Kd.R_take (m := xs.length - 1) HS.out.1 (by rw [List.length_set, hlen]; omega)
   rw [List.take_set_of_le (by rw [Int.toNat_natCast]; omega), HE.out] at z
   rw [Int.toNat_natCast] at z
   exact z
section
open Go.Sort hiding rd
/-- Some draws, and blocks laid behind. -/
def Gr (w w' : World) : Prop := ∃ q os', w' = grow (w.drewN q) os'
theorem Gr_refl (w : World) : Gr w w := ⟨0, #[], by rw [grow_empty]; rfl⟩
theorem Gr_alloc {w W : World} (h : Gr w W) (o : Obj) : Gr w (W.alloc o) := by
 obtain ⟨q, os, rfl⟩ := h
 exact ⟨q, os ++ #[o], by rw [alloc_eq_grow, grow_grow]⟩
theorem Gr_drewN {w W : World} (h : Gr w W) (n : Nat) : Gr w (W.drewN n) := by
 obtain ⟨q, os, rfl⟩ := h
 exact ⟨q + n, os, by simp [grow, World.drewN, Nat.add_assoc]⟩
theorem Gr_drew {w W : World} (h : Gr w W) : Gr w W.drew := Gr_drewN h 1
def cmpv (a b : Int) : Int := if a < b then -1 else if a > b then 1 else 0
set_option maxHeartbeats 1000000 in
theorem cmp46 (x y : Int) (W : World) : Calls Try.prog 46 #[.int .i64 x, .int .i64 y] W fun e w' => e = .returned (.int .i64 (cmpv x y)) ∧ w' = W := by
 unfold cmpv
 by_cases h1 : x < y
 ·rw [if_pos h1]
  go_enter Try.func46, Try.ntmps46
  go_wp2
  go_ret
  exact ⟨rfl, rfl⟩
 ·rw [if_neg h1]
  by_cases h2 : x > y
  ·rw [if_pos h2]
   have h2' : y < x := h2
   go_enter Try.func46, Try.ntmps46
   go_wp2
   go_ret
   exact ⟨rfl, rfl⟩
  ·rw [if_neg h2]
   have h2' : ¬ y < x := h2
   go_enter Try.func46, Try.ntmps46
   go_wp2
   go_ret
   exact ⟨rfl, rfl⟩
def ordv (x y : S27) : Int := if cmpv x.f0 y.f0 = 0 then cmpv x.f1 y.f1 else cmpv x.f0 y.f0
set_option maxHeartbeats 2000000 in
theorem order34 (k : Nat) (x y : S27) (w : World) (hor : cmp_Or_int.f k [cmpv x.f0 y.f0, cmpv x.f1 y.f1] = some (ordv x y)) : Calls Try.prog 34 #[.agg #[.int .i64 x.f0, .int .i64 x.f1], .agg #[.int .i64 y.f0, .int .i64 y.f1]] w fun e w' => e = .returned (.int .i64 (ordv x y)) ∧ Gr w w' := by
 have hu27 := Try.underlying27
 have h1 := Aside0.mk (fun W => cmp46 x.f0 y.f0 W)
 have h2 := Aside0.mk (fun W => cmp46 x.f1 y.f1 W)
 have HO := Aside0.mk hor
 clear hor
 generalize cmpv x.f0 y.f0 = p at h1 HO
 generalize cmpv x.f1 y.f1 = q at h2 HO
 generalize ordv x y = r at HO ⊢
 go_enter Try.func34, Try.ntmps34
 go_wp2
 have c0 : ((w.alloc (.cells #[.int .i64 x.f0, .int .i64 x.f1] 27)).alloc (.cells #[.int .i64 y.f0, .int .i64 y.f1] 27)).cell? ⟨w.heap.size, 0, none⟩ = some (.int .i64 x.f0) := (((Below.refl _ _).alloc (Nat.le_refl _) _).cell (p := ⟨w.heap.size, 0, none⟩) (by simp)).trans (by simp)
 have c1 : ((w.alloc (.cells #[.int .i64 x.f0, .int .i64 x.f1] 27)).alloc (.cells #[.int .i64 y.f0, .int .i64 y.f1] 27)).cell? ⟨w.heap.size, 1, none⟩ = some (.int .i64 x.f1) := (((Below.refl _ _).alloc (Nat.le_refl _) _).cell (p := ⟨w.heap.size, 1, none⟩) (by simp)).trans (by simp)
 have c2 : ((w.alloc (.cells #[.int .i64 x.f0, .int .i64 x.f1] 27)).alloc (.cells #[.int .i64 y.f0, .int .i64 y.f1] 27)).cell? ⟨w.heap.size + 1, 0, none⟩ = some (.int .i64 y.f0) := by
  have z : (w.alloc (.cells #[.int .i64 x.f0, .int .i64 x.f1] 27)).heap.size = w.heap.size + 1 := by simp
  rw [← z]; simp
 have c3 : ((w.alloc (.cells #[.int .i64 x.f0, .int .i64 x.f1] 27)).alloc (.cells #[.int .i64 y.f0, .int .i64 y.f1] 27)).cell? ⟨w.heap.size + 1, 1, none⟩ = some (.int .i64 y.f1) := by
  have z : (w.alloc (.cells #[.int .i64 x.f0, .int .i64 x.f1] 27)).heap.size = w.heap.size + 1 := by simp
  rw [← z]; simp
 have HG := Aside0.mk (Gr_alloc (Gr_alloc (Gr_refl w) (.cells #[.int .i64 x.f0, .int .i64 x.f1] 27)) (.cells #[.int .i64 y.f0, .int .i64 y.f1] 27))
 generalize (w.alloc (.cells #[.int .i64 x.f0, .int .i64 x.f1] 27)).alloc (.cells #[.int .i64 y.f0, .int .i64 y.f1] 27) = w2 at c0 c1 c2 c3 HG ⊢
 go_still_tail 10, (by kernel_rfl)
 still_call (h1.out _)
 repeat still_step
 still_call (h2.out _)
 repeat still_step
 refine wpStill_nil ?_
 have hrow : Kd.C (Kd.int .i64) (w2.alloc (.cells #[.int .i64 p, .int .i64 q] 3)).drew (some ⟨w2.heap.size, 0, none⟩) ([p, q] : List Int).length [p, q] := Kd.C_of_reads (enc := Value.int .i64) (d := (0 : Int)) (h1 := fun _ => rfl) ⟨rfl, by simp, fun _ => ⟨_, rfl, fun j hj => by
  have hj' : j = 0 ∨ j = 1 := by simp at hj; omega
  rcases hj' with rfl | rfl <;> (rw [Addr.add_lit]; simp)⟩⟩
 have HROW := Aside0.mk hrow
 clear hrow
 go_wp2_with (go_at_call 45; refine (cmp_Or_int.calls k (some ⟨w2.heap.size, 0, none⟩) 2 [p, q] r _ HROW.out (by simp) HO.out).mono ?_; rintro e w' ⟨rfl, ⟨nd, rfl⟩⟩)
 go_ret
 exact ⟨rfl, Gr_drewN (Gr_alloc HG.out _) (1 + nd)⟩
def sortT_ren : Go.Shelf.Ren := ⟨fun | 6 => 33 | 15 => 44 | 14 => 43 | 28 => 58 | 29 => 59 | 20 => 50 | 21 => 51 | 22 => 52 | 23 => 53 | 24 => 54 | 25 => 55 | 26 => 56 | 27 => 57 | 46 => 61 | 47 => 62 | 48 => 63 | 49 => 64 | 50 => 65 | 57 => 66 | n => n, fun | 22 => 23 | 24 => 27 | 25 => 54 | 3 => 3 | 39 => 66 | 0 => 0 | 53 => 79 | 55 => 81 | 4 => 4 | 46 => 72 | 45 => 71 | 50 => 76 | 5 => 5 | 9 => 9 | 66 => 83 | 70 => 87 | 76 => 89 | 77 => 90 | n => n, fun | n => n⟩
theorem sortT : SlLaysF0.n6 Try.prog sortT_ren := {
 mixed := by kernel_rfl
 f6 := Exists.intro "slices.SortFunc[[]loop.example/g00356/impl.Timer,loop.example/g00356/impl.Timer]" ⟨by decide, Try.func33.trans (congrArg some (by kernel_rfl))⟩
 f14 := Exists.intro "slices.pdqsortCmpFunc[loop.example/g00356/impl.Timer]" ⟨by decide, Try.func43.trans (congrArg some (by kernel_rfl))⟩
 f15 := Try.func44.trans (congrArg some (by kernel_rfl))
 f20 := Exists.intro "slices.insertionSortCmpFunc[loop.example/g00356/impl.Timer]" ⟨by decide, Try.func50.trans (congrArg some (by kernel_rfl))⟩
 f21 := Exists.intro "slices.heapSortCmpFunc[loop.example/g00356/impl.Timer]" ⟨by decide, Try.func51.trans (congrArg some (by kernel_rfl))⟩
 f22 := Exists.intro "slices.breakPatternsCmpFunc[loop.example/g00356/impl.Timer]" ⟨by decide, Try.func52.trans (congrArg some (by kernel_rfl))⟩
 f23 := Exists.intro "slices.choosePivotCmpFunc[loop.example/g00356/impl.Timer]" ⟨by decide, Try.func53.trans (congrArg some (by kernel_rfl))⟩
 f24 := Exists.intro "slices.reverseRangeCmpFunc[loop.example/g00356/impl.Timer]" ⟨by decide, Try.func54.trans (congrArg some (by kernel_rfl))⟩
 f25 := Exists.intro "slices.partialInsertionSortCmpFunc[loop.example/g00356/impl.Timer]" ⟨by decide, Try.func55.trans (congrArg some (by kernel_rfl))⟩
 f26 := Exists.intro "slices.partitionEqualCmpFunc[loop.example/g00356/impl.Timer]" ⟨by decide, Try.func56.trans (congrArg some (by kernel_rfl))⟩
 f27 := Exists.intro "slices.partitionCmpFunc[loop.example/g00356/impl.Timer]" ⟨by decide, Try.func57.trans (congrArg some (by kernel_rfl))⟩
 f28 := Try.func58.trans (congrArg some (by kernel_rfl))
 f29 := Try.func59.trans (congrArg some (by kernel_rfl))
 f46 := Exists.intro "slices.siftDownCmpFunc[loop.example/g00356/impl.Timer]" ⟨by decide, Try.func61.trans (congrArg some (by kernel_rfl))⟩
 f47 := Try.func62.trans (congrArg some (by kernel_rfl))
 f48 := Try.func63.trans (congrArg some (by kernel_rfl))
 f49 := Exists.intro "slices.medianAdjacentCmpFunc[loop.example/g00356/impl.Timer]" ⟨by decide, Try.func64.trans (congrArg some (by kernel_rfl))⟩
 f50 := Exists.intro "slices.medianCmpFunc[loop.example/g00356/impl.Timer]" ⟨by decide, Try.func65.trans (congrArg some (by kernel_rfl))⟩
 f57 := Exists.intro "slices.order2CmpFunc[loop.example/g00356/impl.Timer]" ⟨by decide, Try.func66.trans (congrArg some (by kernel_rfl))⟩
 t0 := Try.underlying0
 a0 := Try.isAgg0
 z0 := Try.sizeOf0
 v0 := Try.zeroValue0
 t3 := Try.underlying3
 a3 := Try.isAgg3
 z3 := Try.sizeOf3
 v3 := Try.zeroValue3
 t4 := Try.underlying4
 a4 := Try.isAgg4
 z4 := Try.sizeOf4
 v4 := Try.zeroValue4
 t5 := Try.underlying5
 a5 := Try.isAgg5
 z5 := Try.sizeOf5
 v5 := Try.zeroValue5
 t9 := Try.underlying9
 a9 := Try.isAgg9
 z9 := Try.sizeOf9
 v9 := Try.zeroValue9
 t22 := Try.underlying23
 a22 := Try.isAgg23
 z22 := Try.sizeOf23
 v22 := Try.zeroValue23
 t25 := Try.underlying54
 a25 := Try.isAgg54
 z25 := Try.sizeOf54
 v25 := Try.zeroValue54
 t39 := Try.underlying66
 a39 := Try.isAgg66
 z39 := Try.sizeOf66
 v39 := Try.zeroValue66
 t45 := Try.underlying71
 a45 := Try.isAgg71
 z45 := Try.sizeOf71
 v45 := Try.zeroValue71
 t46 := Try.underlying72
 a46 := Try.isAgg72
 z46 := Try.sizeOf72
 v46 := Try.zeroValue72
 t50 := Try.underlying76
 a50 := Try.isAgg76
 z50 := Try.sizeOf76
 v50 := Try.zeroValue76
 t53 := Try.underlying79
 a53 := Try.isAgg79
 z53 := Try.sizeOf79
 v53 := Try.zeroValue79
 t55 := Try.underlying81
 a55 := Try.isAgg81
 z55 := Try.sizeOf81
 v55 := Try.zeroValue81
 t66 := Try.underlying83
 a66 := Try.isAgg83
 z66 := Try.sizeOf83
 v66 := Try.zeroValue83
 t70 := Try.underlying87
 a70 := Try.isAgg87
 z70 := Try.sizeOf87
 v70 := Try.zeroValue87
 t76 := Try.underlying89
 a76 := Try.isAgg89
 z76 := Try.sizeOf89
 v76 := Try.zeroValue89
 t77 := Try.underlying90
 a77 := Try.isAgg90
 z77 := Try.sizeOf90
 v77 := Try.zeroValue90 }
theorem or_eq (p q : Int) : cmp_Or_int.f 4 [p, q] = some (if p = 0 then q else p) := by
 unfold cmp_Or_int.f
 by_cases h : p = 0
 ·by_cases h2 : q = 0
  ·simp [cmp_Or_int.l0, rd, h, h2, wrap64]
  ·simp [cmp_Or_int.l0, rd, h, h2, wrap64]
 ·simp [cmp_Or_int.l0, rd, h, wrap64]
instance : Inhabited S27 := ⟨z27⟩
def enc27 (x : S27) : List Value := [.int .i64 x.f0, .int .i64 x.f1]
theorem cmpLays34 (blk off size : Nat) (w : World) : CmpLays Try.prog 34 #[] enc27 2 ordv blk off size w :=
 fun m os dk hs x y => order34 4 x y _ (or_eq _ _)
theorem ord_lt (x y : S27) : ordv x y < 0 ↔ x.f0 < y.f0 ∨ x.f0 = y.f0 ∧ x.f1 < y.f1 := by
 unfold ordv cmpv
 repeat' split
 all_goals omega
theorem ord_swo : SWO (ltOf ordv) := by
 have h : ∀ x y, ltOf ordv x y = decide (x.f0 < y.f0 ∨ x.f0 = y.f0 ∧ x.f1 < y.f1) := fun x y => decide_eq_decide.2 (ord_lt x y)
 refine ⟨fun x => ?_, fun x y z h1 h2 => ?_, fun x y z h1 h2 => ?_⟩
 ·rw [h]; apply decide_eq_false; omega
 ·rw [h] at *
  have a := of_decide_eq_true h1
  have b := of_decide_eq_true h2
  apply decide_eq_true; omega
 ·rw [h] at *
  have a := of_decide_eq_false h1
  have b := of_decide_eq_false h2
  apply decide_eq_false; omega
theorem ord_tot (x y : S27) (h1 : ltOf ordv x y = false) (h2 : ltOf ordv y x = false) : x = y := by
 have a := of_decide_eq_false h1
 have b := of_decide_eq_false h2
 rw [ord_lt] at a b
 cases x; cases y
 simp only [S27.mk.injEq] at *
 omega
/-- What the sort leaves. -/
def srt (l : List S27) : List S27 := l.mergeSort fun x y => !(ltOf ordv) y x
set_option maxHeartbeats 2000000 in
theorem sort33 (g c : Nat) (xs : List S27) (w : World) (hH : HoldsK enc27 2 w g 0 xs.toArray) (hblk : g < w.heap.size) (hsz : xs.length < 4611686018427387904) :
  Calls Try.prog 33 #[.slice (some ⟨g, 0, none⟩) xs.length c, .func (.func 34) #[] #[]] w fun e w' => e = .returned (.tuple #[]) ∧ ∃ n os, w' = sortWorldK enc27 2 w g 0 n (srt xs).toArray os := by
 have eg : ∀ args w, (callFunc 34 args).run Try.prog w = .ok (.enter 34 args) w := enters_of Try.func34 (by kernel_rfl) rfl
 have h := AnyQ.slices_SortFunc_total sortT 2 Try.isAgg27 Try.sizeOf27 enc27 (fun _ => rfl) (fun x v hv => by simp [enc27] at hv; rcases hv with rfl | rfl <;> rfl) ordv ord_swo 34 #[] g 0 c xs.toArray w eg (cmpLays34 g 0 _ w) hH hblk (by simpa using hsz) ord_tot
 exact h
theorem holds_of_R (w : World) (base c g : Nat) (xs : List S27) (hR : Kd.R k27 27 w base (fun _ => True) (.slice (some ⟨g, 0, none⟩) xs.length c) xs) : HoldsK enc27 2 w g 0 xs.toArray := by
 intro t ht
 rw [size_flatK] at ht
 simp only [List.size_toArray] at ht
 have h2 : t / 2 < xs.length := by omega
 obtain ⟨ce, hcl, hM, hcc, hfr⟩ := Kd.R_elem hR z27 ((t / 2 : Nat) : Int) (by omega) (by omega)
 obtain rfl := k27_openM hM
 rw [get_flatK _ _ _ _ (by simpa using ht)]
 simp only [show (k27).sz = 2 from rfl, Int.toNat_natCast] at hcc hfr
 have e : xs.toArray[t / 2]! = xs.getD (t / 2) z27 := by
  rw [getElem!_pos _ _ (by simpa using h2), List.getElem_toArray, List.getD_eq_getElem?_getD, List.getElem?_eq_getElem h2]; rfl
 rw [e]
 have ht2 : t / 2 * 2 + t % 2 = t := by omega
 have z1 := hfr (t % 2)
 rw [ht2] at z1
 refine ⟨?_, by rw [Nat.zero_add]; exact z1⟩
 rw [Nat.zero_add]
 rcases (show t % 2 = 0 ∨ t % 2 = 1 by omega) with q | q
 ·have z := hcc 0 _ rfl
  rw [← q, ht2] at z
  rw [z, q]; rfl
 ·have z := hcc 1 _ rfl
  rw [← q, ht2] at z
  rw [z, q]; rfl
theorem sort_R (w : World) (base c g m : Nat) (os : Array Obj) (xs ys : List S27) (hR : Kd.R k27 27 w base (fun _ => True) (.slice (some ⟨g, 0, none⟩) xs.length c) xs) (hl : ys.length = xs.length) (hbg : base ≤ g) (hgw : g < w.heap.size) :
  Kd.R k27 27 (sortWorldK enc27 2 w g 0 m ys.toArray os) base (fun _ => True) (.slice (some ⟨g, 0, none⟩) xs.length c) ys ∧ Below base w (sortWorldK enc27 2 w g 0 m ys.toArray os) := by
 have hH := holdsK_sortWorldK_c enc27 2 w g 0 xs.toArray ys.toArray m os (holds_of_R w base c g xs hR) hgw (by simp [hl])
 obtain ⟨_, inner, hown, hrl, hreps⟩ := hR
 have hblk : ∀ k, k < w.heap.size → k ≠ g → (sortWorldK enc27 2 w g 0 m ys.toArray os).heap[k]? = w.heap[k]? := fun k hk hne => by
  unfold sortWorldK
  rw [heap_grow_old _ _ (by rw [show (putRowK enc27 2 (Sort.ahead w m) g 0 ys.toArray).heap.size = w.heap.size by simp [putRowK, putRow, mapBlock, Sort.ahead]]; exact hk)]
  simp only [putRowK, putRow, mapBlock, Sort.ahead, Array.getElem?_modify]
  rw [if_neg (fun e => hne e.symm)]
 have hsz : w.heap.size ≤ (sortWorldK enc27 2 w g 0 m ys.toArray os).heap.size := size_sortWorldK_c enc27 2 w g 0 m ys.toArray os
 have hB : Below base w (sortWorldK enc27 2 w g 0 m ys.toArray os) := ⟨rfl, rfl, rfl, hsz, fun k hk => hblk k (by omega) (by omega)⟩
 refine ⟨?_, hB⟩
 rcases hown.2 with ⟨h0, h1⟩ | ⟨g', cap, cur, hv, hb, hh, hnc, hm, hcs, htk⟩
 ·injection h0 with a _ _; cases a
 ·injection hv with hA hn hc
  injection hA with hA
  injection hA with hA _ _
  subst hA hc
  obtain ⟨cur', hh', hcs'⟩ : ∃ cur', (sortWorldK enc27 2 w g 0 m ys.toArray os).heap[g]? = some (.cells cur' 27 (0, 0)) ∧ cur'.size = cur.size := by
   refine ⟨putCells id 0 (flatK enc27 2 ys.toArray) cur, ?_, by simp [putCells]⟩
   unfold sortWorldK
   rw [heap_grow_old _ _ (by rw [show (putRowK enc27 2 (Sort.ahead w m) g 0 ys.toArray).heap.size = w.heap.size by simp [putRowK, putRow, mapBlock, Sort.ahead]]; exact hgw)]
   simp only [putRowK, putRow, mapBlock, Sort.ahead, Array.getElem?_modify]
   rw [if_pos trivial, hh]; rfl
  have hcell : ∀ t, t < xs.length * 2 → cur'[t]? = some ((enc27 (ys.toArray[t / 2]!))[t % 2]!) := fun t ht => by
   have z := (hH t (by rw [size_flatK]; simpa [hl] using ht)).1
   rw [Nat.zero_add, blk_cell hh', get_flatK _ _ _ _ (by simpa [hl] using ht)] at z
   exact z
  have hcs2 : cur'.size = c * 2 := hcs'.trans hcs
  have hct : cur'.toList.length = c * 2 := by rw [Array.length_toList]; exact hcs2
  refine ⟨fun _ _ => trivial, cur'.toList.take (xs.length * 2), ⟨?_, Or.inr ⟨g, c, cur', by rw [hl], hb, hh', by rw [hl]; exact hnc, hm, hcs2, by rw [hl]; rfl⟩⟩, ?_, ?_⟩
  ·rw [List.length_take, hct, hl]; show _ = _ * 2; omega
  ·rw [List.length_take, hct, hl]; show _ = _ * 2; omega
  ·intro j p hj
   obtain ⟨hj1, hj2⟩ := List.getElem?_eq_some_iff.1 hj
   rw [hl] at hj1
   have hmk := k27_mkM (sortWorldK enc27 2 w g 0 m ys.toArray os) base (fun k_ => True ∧ some k_ ≠ (Value.slice (some ⟨g, 0, none⟩) xs.length c).ownBlock) p
   have e : ((cur'.toList.take (xs.length * 2)).drop (j * 2)).take 2 = [.int .i64 p.f0, .int .i64 p.f1] := by
    have hy : ys.toArray[j]! = p := by
     rw [getElem!_pos _ _ (by simp; omega), List.getElem_toArray]; exact hj2
    apply List.ext_getElem?
    intro i
    rcases (show i = 0 ∨ i = 1 ∨ 2 ≤ i by omega) with q | q | q
    ·subst q
     rw [List.getElem?_take_of_lt (by omega), List.getElem?_drop, List.getElem?_take_of_lt (by omega), Array.getElem?_toList, hcell _ (by omega), show (j * 2 + 0) / 2 = j by omega, show (j * 2 + 0) % 2 = 0 by omega, hy]; rfl
    ·subst q
     rw [List.getElem?_take_of_lt (by omega), List.getElem?_drop, List.getElem?_take_of_lt (by omega), Array.getElem?_toList, hcell _ (by omega), show (j * 2 + 1) / 2 = j by omega, show (j * 2 + 1) % 2 = 1 by omega, hy]; rfl
    ·rw [List.getElem?_eq_none (by rw [List.length_take]; omega), List.getElem?_eq_none (by simp; omega)]
   show k27.M _ base _ p (((cur'.toList.take (xs.length * 2)).drop (j * 2)).take 2)
   rw [e]; exact hmk
/-- One element of this id struck, if it is the only one; nothing struck, if there is none. -/
def delL (id : Int) (l : List S27) : Option (List S27) := if idx id l 0 < 0 then some l else if ((l.eraseIdx (idx id l 0).toNat).all fun x => !(x.f1 == id)) = true then some (l.eraseIdx (idx id l 0).toNat) else none
theorem idx_neg (id : Int) (l : List S27) : ∀ i : Int, 0 ≤ i → (idx id l i = -1) ∨ (i ≤ idx id l i ∧ idx id l i < i + l.length) := by
 induction l with
 | nil => intro i _; exact Or.inl rfl
 | cons x xs ih =>
  intro i hi
  simp only [idx]
  split
  ·exact Or.inr ⟨Int.le_refl _, by simp; omega⟩
  ·rcases ih (i + 1) (by omega) with h | ⟨h1, h2⟩
   ·exact Or.inl h
   ·exact Or.inr ⟨by omega, by simp; omega⟩
set_option maxHeartbeats 1000000 in
theorem delnone30 (t : Int) (B c : Nat) (A : Option Addr) (xs : List S27) (w : World) (hC : Kd.C k27 w A xs.length xs) (hB : B < w.heap.size) (hcell : w.cell? ⟨B, 1, none⟩ = some (.int .i64 t)) (hidx : idx t xs 0 = -1) :
  Calls Try.prog 30 #[.slice A xs.length c, .func (.func 32) #[] #[.pointer (some ⟨B, 0, none⟩)]] w fun e w' => e = .returned (.slice A xs.length c) ∧ Below w.heap.size w w' := by
 have hI := index42b A c xs t B w hC hB hcell
 rw [hidx] at hI
 have HI := Aside0.mk hI
 clear hI hC hidx
 go_enter Try.func30, Try.ntmps30
 go_wp2_with (go_at_call 42; refine HI.out.mono ?_; rintro e w1 ⟨rfl, hb⟩; have HB := Aside0.mk hb; clear hb)
 go_ret
 exact ⟨rfl, HB.out⟩
theorem delAny (t : Int) (B base : Nat) (v : Value) (xs o : List S27) (w : World) (hR : Kd.R k27 27 w base (fun _ => True) v xs) (hbase : base ≤ w.heap.size) (hB : B < base) (hcell : w.cell? ⟨B, 1, none⟩ = some (.int .i64 t)) (h : delL t xs = some o) :
  Calls Try.prog 30 #[v, .func (.func 32) #[] #[.pointer (some ⟨B, 0, none⟩)]] w fun e w' => ∃ v', e = .returned v' ∧ Kd.R k27 27 w' base (fun _ => True) v' o ∧ Below base w w' := by
 obtain ⟨A, c, rfl⟩ := Kd.R_slice hR
 obtain ⟨hn, hnc, hC⟩ := Kd.R_reads' hR
 unfold delL at h
 rcases idx_neg t xs 0 (Int.le_refl 0) with hi | ⟨hi1, hi2⟩
 ·rw [if_pos (by omega)] at h
  obtain rfl := Option.some.inj h
  refine (delnone30 t B c A xs w hC (by omega) hcell hi).mono ?_
  rintro e w' ⟨rfl, hb⟩
  exact ⟨_, rfl, Kd.R_below hR hb, hb.mono hbase⟩
 ·obtain ⟨p, hp⟩ : ∃ p : Nat, idx t xs 0 = p := ⟨(idx t xs 0).toNat, by omega⟩
  have hpl : p < xs.length := by omega
  rw [if_neg (by omega), hp, Int.toNat_natCast] at h
  by_cases hall : ((xs.eraseIdx p).all fun x => !(x.f1 == t)) = true
  ·rw [if_pos hall] at h
   obtain rfl := Option.some.inj h
   obtain ⟨g, cap, hv, hg, hgw, hcell2⟩ := Kd.R_form hR (by omega)
   injection hv with e1 e2 e3
   subst e1; subst e3
   have hm : c ≤ 9223372036854775807 := by
    obtain ⟨_, inner, hown, _, _⟩ := hR
    rcases hown.2 with ⟨h0, _⟩ | ⟨g', cap, cur, hv, _, _, _, hm, _, _⟩
    ·cases h0
    ·injection hv with _ _ hc; subst hc; unfold maxLen at hm; exact hm
   refine (delfunc30 t B base c g xs p w hR hg hgw hnc hm hbase hB hcell hpl hp (fun j hj hne e => ?_)).mono ?_
   ·have hmem : xs[j] ∈ xs.eraseIdx p := List.mem_eraseIdx_iff_getElem.2 ⟨j, hj, hne, rfl⟩
    have := List.all_eq_true.1 hall _ hmem
    simp [e] at this
   ·rintro e w' ⟨rfl, h1, h2⟩
    exact ⟨_, rfl, h1, h2⟩
  ·rw [if_neg hall] at h; cases h
def impl_TimerPut.f (k : Nat) (l0 : List S27) (a1_0 : Int) (a1_1 : Int) : Option (List S27 × Int) :=
 (impl_timersFault.f k l0).bind fun t => if t = 0 then ((impl_timerOK.f a1_0 a1_1).bind fun b => if b = true then ((impl_Timer_31.f l0).bind fun cl => (delL a1_1 cl).bind fun o => if o.length = 20 then some (cl, 7) else if o.length < 1000000 then some (srt (o ++ [⟨a1_0, a1_1⟩]), 0) else none) else some ([], 1)) else some ([], t)
theorem impl_TimerPut.mono : ∀ a0 a1 a2 k, LeO (impl_TimerPut.f k a0 a1 a2) (impl_TimerPut.f (k + 1) a0 a1 a2) := by
 intro a0 a1 a2 k r h
 unfold impl_TimerPut.f at h ⊢
 obtain ⟨t, ht, h⟩ := Option.bind_eq_some_iff.mp h
 rw [impl_timersFault.mono _ _ t ht, Option.bind_some]
 exact h
set_option maxHeartbeats 4000000 in
theorem impl_TimerPut.calls (k : Nat) (A0 : Option Addr) (c0 : Nat) (l0 : List S27) (a1_0 : Int) (a1_1 : Int) (r1 : List S27) (r2 : Int) (w : World) (hr0 : Kd.C k27 w A0 l0.length l0) (hc0 : l0.length ≤ c0) (h : impl_TimerPut.f k l0 a1_0 a1_1 = some (r1, r2)) :
  Calls Try.prog 9 #[.slice A0 l0.length c0, .agg #[.int .i64 a1_0, .int .i64 a1_1]] w fun e w' => ∃ v0_ : Value, e = .returned (.tuple #[v0_, .int .i64 r2]) ∧ Kd.R k27 27 w' w.heap.size (fun _ => True) v0_ r1 ∧ Below w.heap.size w w' := by
 have hu := Try.underlying27
 unfold impl_TimerPut.f at h
 obtain ⟨t, ht, h⟩ := Option.bind_eq_some_iff.mp h
 -- the world behind the box
 have hb1 : Below w.heap.size w (w.alloc (.cells #[.int .i64 a1_0, .int .i64 a1_1] 27)) := (Below.refl _ w).alloc (Nat.le_refl _) _
 have hs1 : (w.alloc (.cells #[.int .i64 a1_0, .int .i64 a1_1] 27)).heap.size = w.heap.size + 1 := by simp
 have hc0_ : (w.alloc (.cells #[.int .i64 a1_0, .int .i64 a1_1] 27)).cell? ⟨w.heap.size, 0, none⟩ = some (.int .i64 a1_0) := by simp
 have hc1_ : (w.alloc (.cells #[.int .i64 a1_0, .int .i64 a1_1] 27)).cell? ⟨w.heap.size, 1, none⟩ = some (.int .i64 a1_1) := by simp
 have HF := Aside0.mk (impl_timersFault.calls k A0 c0 l0 t (w.alloc (.cells #[.int .i64 a1_0, .int .i64 a1_1] 27)) (Kd.C_below hr0 hb1) hc0 ht)
 have HR0 := Aside0.mk (fun W (hW : Below (w.alloc (.cells #[.int .i64 a1_0, .int .i64 a1_1] 27)).heap.size (w.alloc (.cells #[.int .i64 a1_0, .int .i64 a1_1] 27)) W) => Kd.C_below (Kd.C_below hr0 hb1) hW)
 clear ht hr0
 by_cases hz : t = 0
 ·subst hz
  rw [if_pos rfl] at h
  obtain ⟨b, hok, h⟩ := Option.bind_eq_some_iff.mp h
  have HK := Aside0.mk (fun W => impl_timerOK.calls a1_0 a1_1 b W hok)
  clear hok
  cases b with
  | false =>
   rw [if_neg (by simp)] at h
   have h := Option.some.inj h
   injection h with h1 h2
   subst h1; subst h2
   have HX : Aside0 (∀ W, Below (w.alloc (.cells #[.int .i64 a1_0, .int .i64 a1_1] 27)).heap.size (w.alloc (.cells #[.int .i64 a1_0, .int .i64 a1_1] 27)) W → W.cell? ⟨w.heap.size, 0, none⟩ = some (.int .i64 a1_0) ∧ W.cell? ⟨w.heap.size, 1, none⟩ = some (.int .i64 a1_1)) := ⟨fun W hW => ⟨(hW.cell (p := ⟨w.heap.size, 0, none⟩) (by simp)).trans hc0_, (hW.cell (p := ⟨w.heap.size, 1, none⟩) (by simp)).trans hc1_⟩⟩
   have HB1 := Aside0.mk hb1
   clear hc0_ hc1_ hb1 HR0
   go_enter Try.func9, Try.ntmps9
   go_wp2_with (first
    | (go_at_call 28; refine HF.out.mono ?_; rintro e w2 ⟨rfl, hb⟩; obtain ⟨q0, q1⟩ := HX.out w2 hb; have HB2 := Aside0.mk hb; clear hb)
    | (go_at_call 29; refine (HK.out _).mono ?_; rintro e w3 ⟨rfl, hb⟩; have HB3 := Aside0.mk hb; clear hb))
   go_ret2
   exact ⟨_, rfl, Kd.R_nil _ _ _ _ _, HB1.out.trans ((HB2.out.trans (HB3.out.mono HB2.out.size)).mono (by simp))⟩
  | true =>
   rw [if_pos rfl] at h
   obtain ⟨cl, hcl, h⟩ := Option.bind_eq_some_iff.mp h
   obtain ⟨o, ho, h⟩ := Option.bind_eq_some_iff.mp h
   have hbs : w.heap.size + 1 ≤ (w.alloc (.cells #[.int .i64 a1_0, .int .i64 a1_1] 27)).heap.size := by rw [hs1]; exact Nat.le_refl _
   have HX : Aside0 (∀ W, Below (w.heap.size + 1) (w.alloc (.cells #[.int .i64 a1_0, .int .i64 a1_1] 27)) W → W.cell? ⟨w.heap.size, 0, none⟩ = some (.int .i64 a1_0) ∧ W.cell? ⟨w.heap.size, 1, none⟩ = some (.int .i64 a1_1)) := ⟨fun W hW => ⟨(hW.cell (p := ⟨w.heap.size, 0, none⟩) (Nat.lt_succ_self _)).trans hc0_, (hW.cell (p := ⟨w.heap.size, 1, none⟩) (Nat.lt_succ_self _)).trans hc1_⟩⟩
   have HR1 : Aside0 (∀ W, Below (w.heap.size + 1) (w.alloc (.cells #[.int .i64 a1_0, .int .i64 a1_1] 27)) W → Kd.C k27 W A0 l0.length l0) := ⟨fun W hW => HR0.out W (by rw [hs1]; exact hW)⟩
   have HC : Aside0 (∀ W, Below (w.heap.size + 1) (w.alloc (.cells #[.int .i64 a1_0, .int .i64 a1_1] 27)) W → Calls Try.prog 31 #[.slice A0 l0.length c0] W fun e w' => ∃ v0_ : Value, e = .returned (v0_) ∧ Kd.R k27 27 w' W.heap.size (fun _ => True) v0_ cl ∧ Below W.heap.size W w') := ⟨fun W hW => impl_Timer_31.calls A0 c0 l0 cl W (HR1.out W hW) hc0 hcl⟩
   have HD : Aside0 (∀ W v, Below (w.heap.size + 1) (w.alloc (.cells #[.int .i64 a1_0, .int .i64 a1_1] 27)) W → w.heap.size + 1 ≤ W.heap.size → Kd.R k27 27 W (w.heap.size + 1) (fun _ => True) v cl → Calls Try.prog 30 #[v, .func (.func 32) #[] #[.pointer (some ⟨w.heap.size, 0, none⟩)]] W fun e w' => ∃ v', e = .returned v' ∧ Kd.R k27 27 w' (w.heap.size + 1) (fun _ => True) v' o ∧ Below (w.heap.size + 1) W w') := ⟨fun W v hW hs hR => delAny a1_1 w.heap.size (w.heap.size + 1) v cl o W hR hs (Nat.lt_succ_self _) (HX.out W hW).2 ho⟩
   have HB1 := Aside0.mk hb1
   have HS1 := Aside0.mk hs1
   have HBS := Aside0.mk hbs
   clear hc0_ hc1_ hb1 HR0 hcl ho hs1 hbs hc0
   by_cases c20 : o.length = 20
   ·rw [if_pos c20] at h
    have h := Option.some.inj h
    injection h with h1 h2
    subst h1; subst h2
    have c20' : (o.length : Int) = 20 := by omega
    clear c20
    go_enter Try.func9, Try.ntmps9
    go_wp2_with (first
     | (go_at_call 28; refine HF.out.mono ?_; rintro e w2 ⟨rfl, hb⟩; have HB2 := Aside0.mk (hb.mono HBS.out); clear hb; obtain ⟨q0, q1⟩ := HX.out w2 HB2.out)
     | (go_at_call 29; refine (HK.out _).mono ?_; rintro e w3 ⟨rfl, hb⟩; have HB3 := Aside0.mk (HB2.out.trans (hb.mono (Nat.le_trans HBS.out HB2.out.size))); clear hb)
     | (go_at_call 31; refine (HC.out _ HB3.out).mono ?_; rintro e w4 ⟨v4, rfl, hR, hb⟩; have R4 := Aside0.mk (Kd.R_lower hR (Nat.le_trans HBS.out HB3.out.size)); have HB4 := Aside0.mk (HB3.out.trans (hb.mono (Nat.le_trans HBS.out HB3.out.size))); clear hR hb)
     | (go_at_call 30; refine (HD.out _ _ HB4.out (Nat.le_trans HBS.out HB4.out.size) R4.out).mono ?_; rintro e w5 ⟨v5, rfl, hR, hb⟩; obtain ⟨A5, c5, rfl⟩ := Kd.R_slice hR; have R5 := Aside0.mk hR; have HB5 := Aside0.mk (HB4.out.trans hb); clear hR hb)
     | (go_at_call 31; refine (HC.out _ HB5.out).mono ?_; rintro e w6 ⟨v6, rfl, hR, hb⟩; have R6 := Aside0.mk (Kd.R_lower hR (Nat.le_trans HBS.out HB5.out.size)); have HB6 := Aside0.mk (HB5.out.trans (hb.mono (Nat.le_trans HBS.out HB5.out.size))); clear hR hb))
    go_ret2
    exact ⟨_, rfl, Kd.R_lower R6.out (Nat.le_succ _), HB1.out.trans (HB6.out.mono (Nat.le_succ _))⟩
   ·rw [if_neg c20] at h
    by_cases cm : o.length < 1000000
    ·rw [if_pos cm] at h
     have h := Option.some.inj h
     injection h with h1 h2
     subst h1; subst h2
     have c20' : ¬ (o.length : Int) = 20 := by omega
     have CM := Aside0.mk cm
     clear c20 cm
     go_enter Try.func9, Try.ntmps9
     go_wp2_with (first
      | (go_at_call 28; refine HF.out.mono ?_; rintro e w2 ⟨rfl, hb⟩; have HB2 := Aside0.mk (hb.mono HBS.out); clear hb; obtain ⟨q0, q1⟩ := HX.out w2 HB2.out)
      | (go_at_call 29; refine (HK.out _).mono ?_; rintro e w3 ⟨rfl, hb⟩; have HB3 := Aside0.mk (HB2.out.trans (hb.mono (Nat.le_trans HBS.out HB2.out.size))); clear hb)
      | (go_at_call 31; refine (HC.out _ HB3.out).mono ?_; rintro e w4 ⟨v4, rfl, hR, hb⟩; have R4 := Aside0.mk (Kd.R_lower hR (Nat.le_trans HBS.out HB3.out.size)); have HB4 := Aside0.mk (HB3.out.trans (hb.mono (Nat.le_trans HBS.out HB3.out.size))); clear hR hb)
      | (go_at_call 30; refine (HD.out _ _ HB4.out (Nat.le_trans HBS.out HB4.out.size) R4.out).mono ?_; rintro e w5 ⟨v5, rfl, hR, hb⟩; obtain ⟨A5, c5, rfl⟩ := Kd.R_slice hR; have R5 := Aside0.mk hR; have HB5 := Aside0.mk (HB4.out.trans hb); obtain ⟨p0, p1⟩ := HX.out w5 HB5.out; clear hR hb)
      | ((with_reducible refine gate_builtin (b := .append) (xs := #[.tmp 25, .tmp 27]) rfl ?_); at_builtin; refine Kd.R_append k27 (w0 := w.alloc (.cells #[.int .i64 a1_0, .int .i64 a1_1] 27)) (w.heap.size + 1) rfl (.tmp 25) (.tmp 27) 23 27 (.agg #[(.int .i64 0), (.int .i64 0)]) 16 rfl Try.underlying23 info27 rfl (by decide) (by omega) (.slice A5 o.length c5) o (⟨a1_0, a1_1⟩ : S27) [.int .i64 a1_0, .int .i64 a1_1] (fun _ => True) (fun _ => False) rfl rfl (k27_mkM _ _ _ (⟨a1_0, a1_1⟩ : S27)) (fun _ hk => hk.elim) (fun _ _ => trivial) R5.out HB5.out (Nat.le_trans HBS.out HB5.out.size) (by have := CM.out; omega) ?_; intro v7 w7 hR hb hg hat; obtain ⟨g7, c7, hv7, hg7, hgw7, hex7⟩ := Kd.R_form hR (by simp); subst hv7; have R7 := Aside0.mk hR; have HB7 := Aside0.mk hb; have G7 := Aside0.mk hg7; have GW7 := Aside0.mk hgw7; have hlen7 : (o ++ [(⟨a1_0, a1_1⟩ : S27)]).length = o.length + 1 := List.length_append.trans rfl; have hsa := sort33 g7 c7 (o ++ [(⟨a1_0, a1_1⟩ : S27)]) w7 (holds_of_R w7 (w.heap.size + 1) c7 g7 _ hR) hgw7 (by have := CM.out; rw [hlen7]; omega); have hsb := hsa; rw [hlen7] at hsb; have HSA := Aside0.mk hsa; have HSB := Aside0.mk hsb; clear hsa hsb; clear hR hb hg hat hex7 hg7 hgw7 hlen7)
      | (go_at_call 33; (first | (with_reducible refine HSB.out.mono ?_) | (with_reducible refine HSA.out.mono ?_)); rintro e w8 ⟨rfl, n8, os8, hw8⟩; have hp8 := sort_R w7 (w.heap.size + 1) c7 g7 n8 os8 _ (srt (o ++ [(⟨a1_0, a1_1⟩ : S27)])) R7.out (by unfold srt; exact List.length_mergeSort _) G7.out GW7.out; rw [← hw8] at hp8; have R8 := Aside0.mk hp8.1; have HB8 := Aside0.mk (HB7.out.trans hp8.2); clear hw8 hp8))
     go_ret2
     have z := R8.out
     rw [show (o ++ [(⟨a1_0, a1_1⟩ : S27)]).length = o.length + 1 from List.length_append.trans rfl] at z
     exact ⟨_, rfl, Kd.R_lower z (Nat.le_succ _), HB1.out.trans (HB8.out.mono (Nat.le_succ _))⟩
    ·rw [if_neg cm] at h; cases h
 ·rw [if_neg hz] at h
  have h := Option.some.inj h
  injection h with h1 h2
  subst h1; subst h2
  have HB1 := Aside0.mk hb1
  clear hb1 HR0
  go_enter Try.func9, Try.ntmps9
  go_wp2_with (go_at_call 28; refine HF.out.mono ?_; rintro e w2 ⟨rfl, hb⟩; have HB2 := Aside0.mk hb; clear hb)
  go_ret2
  exact ⟨_, rfl, Kd.R_nil _ _ _ _ _, HB1.out.trans (HB2.out.mono (by simp))⟩
end

/-! ### impl_TimersDue: function 11 -/
def impl_TimersDue.l0 : Nat → Int → List (S27) → List Int → List (S27) → Int → Int → Option ((List (S27)) × List Int × Int)
 | 0, _, _, _, _, _, _ => none
 | k + 1, x1, x8, x9, x19, x20, x21 => if x21 < x20 then (if 0 ≤ x21 then (if x21 < (x19.length : Int) then (if ((rd_T27 x19 x21).f0) ≤ x1 then (if x9.length < 17592186044416 then (impl_TimersDue.l0 k x1 x8 (x9 ++ [(rd_T27 x19 x21).f1]) x19 x20 (wrap64 (x21 + 1))) else (none)) else (if x8.length < 8796093022208 then (impl_TimersDue.l0 k x1 (x8 ++ [(⟨(rd_T27 x19 x21).f0, (rd_T27 x19 x21).f1⟩ : S27)]) x9 x19 x20 (wrap64 (x21 + 1))) else (none))) else (none)) else (none)) else (some (x8, x9, 0))
def impl_TimersDue.f (k : Nat) (l0 : List (S27)) (a1 : Int) : Option ((List (S27)) × List Int × Int) := (impl_timersFault.f k l0).bind fun t237 => (if t237 = 0 then (impl_TimersDue.l0 k a1 (([] : List (S27))) (([] : List Int)) l0 (l0.length : Int) 0) else (some (([] : List (S27)), ([] : List Int), t237)))
theorem impl_TimersDue.mono_l : ∀ k, (∀ y0 y1 y2 y3 y4 y5, LeO (impl_TimersDue.l0 k y0 y1 y2 y3 y4 y5) (impl_TimersDue.l0 (k + 1) y0 y1 y2 y3 y4 y5))
 | 0 => fun _ _ _ _ _ _ r h => by simp [impl_TimersDue.l0] at h
 | k + 1 => by
  have ih0 := impl_TimersDue.mono_l k
  ·intro y0 y1 y2 y3 y4 y5
   unfold impl_TimersDue.l0
   repeat' first
   | (with_reducible exact ih0 _ _ _ _ _ _)
   | (with_reducible exact impl_timersFault.mono _ _)
   | (with_reducible exact LeO.refl _)
   | (with_reducible exact LeO.none _)
   | (with_reducible refine LeO.ite ?_ ?_)
   | (with_reducible refine LeO.bind ?_ (fun _ => ?_))
   | exact ih0 _ _ _ _ _ _
   | exact impl_timersFault.mono _ _
   | exact LeO.none _
   | refine LeO.ite ?_ ?_
   | refine LeO.bind ?_ (fun _ => ?_)
theorem impl_TimersDue.mono : ∀ a0 a1 k, LeO (impl_TimersDue.f k a0 a1) (impl_TimersDue.f (k + 1) a0 a1) := by
 intro a0 a1 k
 have ih0 := impl_TimersDue.mono_l k
 unfold impl_TimersDue.f
 repeat' first
   | (with_reducible exact ih0 _ _ _ _ _ _)
   | (with_reducible exact impl_timersFault.mono _ _)
   | (with_reducible exact LeO.refl _)
   | (with_reducible exact LeO.none _)
   | (with_reducible refine LeO.ite ?_ ?_)
   | (with_reducible refine LeO.bind ?_ (fun _ => ?_))
   | exact ih0 _ _ _ _ _ _
   | exact impl_timersFault.mono _ _
   | exact LeO.none _
   | refine LeO.ite ?_ ?_
   | refine LeO.bind ?_ (fun _ => ?_)
set_option maxHeartbeats 8000000 in
set_option maxRecDepth 100000 in
theorem impl_TimersDue.calls (k : Nat) (A0 : Option Addr) (c0 : Nat) (l0 : List (S27)) (a1 : Int) (r1 : List (S27)) (r2 : List Int) (r3 : Int) (w : World) (hr0 : Kd.C k27 w A0 l0.length l0) (hc0 : l0.length ≤ c0) (h : impl_TimersDue.f k l0 a1 = some (r1, r2, r3)) :
  Calls Try.prog 11 #[.slice A0 l0.length c0, .int .i64 a1] w fun e w' => ∃ v0_ v1_ : Value, e = .returned (.tuple #[v0_, v1_, .int .i64 r3]) ∧ Kd.R k27 27 w' w.heap.size (fun _ => True) v0_ r1 ∧ Kd.R (Kd.int .i64) 3 w' w.heap.size (fun _ => True) v1_ r2 ∧ Below w.heap.size w w' := by
 have hu27 := Try.underlying27
 have HR0 := Aside0.mk hr0
 have HC0 := Aside0.mk hc0
 clear hr0 hc0
 have HB := Aside0.mk (Below.refl w.heap.size w)
 have H : ((impl_timersFault.f k l0).bind fun t237 => (if t237 = 0 then (impl_TimersDue.l0 k a1 (([] : List (S27))) (([] : List Int)) l0 (l0.length : Int) 0) else (some (([] : List (S27)), ([] : List Int), t237)))) = some (r1, r2, r3) := h
 clear h
 replace H := Option.bind_eq_some_iff.mp H
 obtain ⟨t237, A30, H⟩ := H
 replace H : (if t237 = 0 then (impl_TimersDue.l0 k a1 (([] : List (S27))) (([] : List Int)) l0 (l0.length : Int) 0) else (some (([] : List (S27)), ([] : List Int), t237))) = some (r1, r2, r3) := H
 have A3 := Aside0.mk A30
 clear A30
 by_cases c4 : t237 = 0
 ·rw [if_pos c4] at H
  have c4b0 : (t237 == 0) = true := beq_iff_eq.mpr c4
  have c4b1 : (t237 != 0) = false := bne_eq_false_iff_eq.mpr c4
  clear c4
  obtain ⟨y238, hy238⟩ : ∃ y_ : List (S27), y_ = (([] : List (S27))) := ⟨_, rfl⟩
  replace H : (impl_TimersDue.l0 k a1 y238 (([] : List Int)) l0 (l0.length : Int) 0) = some (r1, r2, r3) := by first | (rw [hy238]; with_reducible exact H) | (have H2_ := (Option.bind_some _ _).symm.trans H; rw [hy238]; with_reducible exact H2_) | (have H2_ := (Option.bind_some _ _).symm.trans H; with_reducible exact H2_) | with_reducible exact H | (rw [hy238]; exact H) | exact H
  have Ny238 := Aside0.mk hy238
  clear hy238
  obtain ⟨y241, hy241⟩ : ∃ y_ : List Int, y_ = (([] : List Int)) := ⟨_, rfl⟩
  replace H : (impl_TimersDue.l0 k a1 y238 y241 l0 (l0.length : Int) 0) = some (r1, r2, r3) := by first | (rw [hy241]; with_reducible exact H) | (have H2_ := (Option.bind_some _ _).symm.trans H; rw [hy241]; with_reducible exact H2_) | (have H2_ := (Option.bind_some _ _).symm.trans H; with_reducible exact H2_) | with_reducible exact H | (rw [hy241]; exact H) | exact H
  have Ny241 := Aside0.mk hy241
  clear hy241
  have H' := Aside0.mk H
  clear H
  go_enter Try.func11, Try.ntmps11
  go_wp2_with (first | ((with_reducible refine gate_callee (f := 28) rfl ?_); refine goesL_ (some 13) rfl rfl Try.func28 (by kernel_rfl) rfl #[.slice A0 l0.length c0] rfl (by (try simp only [List.map_toArray, List.map_cons, List.map_nil]); first | done | rfl | (simp only [List.length_drop, List.length_take]; rfl)) ?_; (with_reducible refine (impl_timersFault.calls k _ _ l0 t237 _ ?side1 ?side2 A3.out).mono ?_); (case side1 => repeat (first | exact HR0.out | (with_reducible refine Kd.C_alloc ?_ _) | (with_reducible refine Kd.C_drewN ?_ _) | (with_reducible refine Kd.C_drew ?_))); (case side2 => exact HC0.out); rintro e w5 ⟨rfl, hb⟩; refine ⟨_, rfl, ?_⟩; have n0_ := Aside0.mk (below_step (by repeat (first | (with_reducible first | exact HB.out | apply below_alloc | apply pw_below_drewN | apply below_drew1) | exact HB.out)) hb); clear HB; have HB := n0_; clear n0_; (try clear hb); (try clear hb2); (try clear hk); (try clear hi)) | ((with_reducible refine gate_dst (N := 17) rfl ?_); refine Kd.R_lit k27 _ 27 ?hg (N := 17) ?hd (xs := ([] : List (S27))) (inner := []) (ok := fun _ => True) (okp := fun _ => True) ?hr ?hp (fun _ hk => hk) trivial (Below.refl _ _) (Nat.le_refl _) (by simp) ?_; (case hd => rfl); (case hg => rfl); (case hr => first | (go_simp; done) | (go_simp; rfl)); (case hp => exact (Reps.none _ _)); intro v239 w6 ho7 hb hg_ hnew_; clear hg_ hnew_; (first | rw [← Ny238.out] at ho7 | (simp only [Int.reduceToNat] at ho7; rw [← Ny238.out] at ho7)); have n0_ := Aside0.mk (Kd.R_lower ho7 (below_size (by repeat (first | (with_reducible first | exact HB.out | apply below_alloc | apply pw_below_drewN | apply below_drew1) | exact HB.out)))); have n1_ := Aside0.mk (below_step (by repeat (first | (with_reducible first | exact HB.out | apply below_alloc | apply pw_below_drewN | apply below_drew1) | exact HB.out)) hb); clear HB; have HO240 := n0_; have HB := n1_; clear n0_ n1_; clear hb ho7) | ((with_reducible refine gate_dst (N := 18) rfl ?_); refine Kd.R_lit (Kd.int .i64) _ 3 ?hg (N := 18) ?hd (xs := ([] : List Int)) (inner := []) (ok := fun _ => True) (okp := fun _ => True) ?hr ?hp (fun _ hk => hk) trivial (Below.refl _ _) (Nat.le_refl _) (by simp) ?_; (case hd => rfl); (case hg => rfl); (case hr => first | (go_simp; done) | (go_simp; rfl)); (case hp => exact (Reps.none _ _)); intro v242 w8 ho9 hb hg_ hnew_; clear hg_ hnew_; (first | rw [← Ny241.out] at ho9 | (simp only [Int.reduceToNat] at ho9; rw [← Ny241.out] at ho9)); have n0_ := Aside0.mk (Kd.R_below (by (with_reducible repeat (first | apply Kd.R_alloc | apply Kd.R_drewN | apply Kd.R_drew)); exact HO240.out) hb); have n1_ := Aside0.mk (Kd.R_lower ho9 (below_size (by repeat (first | (with_reducible first | exact HB.out | apply below_alloc | apply pw_below_drewN | apply below_drew1) | exact HB.out)))); have n2_ := Aside0.mk (below_step (by repeat (first | (with_reducible first | exact HB.out | apply below_alloc | apply pw_below_drewN | apply below_drew1) | exact HB.out)) hb); clear HO240; clear HB; have HO240 := n0_; have HO243 := n1_; have HB := n2_; clear n0_ n1_ n2_; clear hb ho9))
  go_loopg [8, 9, 21] k (fun kq v8 v9 v21 w' => ∃ (x8_1 : List (S27)) (x9_1 : List Int) (x21_1 : Int), v21 = .int .i64 x21_1 ∧ Aside0 (impl_TimersDue.l0 kq a1 x8_1 x9_1 l0 (l0.length : Int) x21_1 = some (r1, r2, r3)) ∧ Aside0 (kq ≤ k) ∧ Aside0 (Kd.R k27 27 w' w.heap.size (fun _ => True) v8 x8_1) ∧ Aside0 (Kd.R (Kd.int .i64) 3 w' w.heap.size (fun _ => True) v9 x9_1) ∧ Aside0 (Below w.heap.size w w'))
  case atStart => exact ⟨(y238), (y241), (0), (by first | rfl | (simp; done) | (simp [*]; done)), H', ⟨Nat.le_refl _⟩, ⟨by (with_reducible repeat (first | apply Kd.R_alloc | apply Kd.R_drewN | apply Kd.R_drew)); exact HO240.out⟩, ⟨by (with_reducible repeat (first | apply Kd.R_alloc | apply Kd.R_drewN | apply Kd.R_drew)); exact HO243.out⟩, ⟨by repeat (first | (with_reducible first | exact HB.out | apply below_alloc | apply pw_below_drewN | apply below_drew1) | exact HB.out)⟩⟩
  case round =>
   clear H'
   try clear c1
   try clear c2
   try clear p2
   try clear c4
   try clear c4b0
   try clear c4b1
   obtain ⟨x8_1, x9_1, x21_1, rfl, HA, HK1, HO_8, HO_9, HB⟩ := hrel
   cases gk with
   | zero => exact absurd HA.out (by simp [impl_TimersDue.l0])
   | succ k1 =>
    have H := HA.out
    clear HA
    simp only [impl_TimersDue.l0] at H
    by_cases c10 : x21_1 < (l0.length : Int)
    ·rw [if_pos c10] at H
     have c10b0 : decide (x21_1 < (l0.length : Int)) = true := decide_eq_true c10
     clear c10
     by_cases c11 : 0 ≤ x21_1
     ·rw [if_pos c11] at H
      have c11b0 : decide (0 ≤ x21_1) = true := decide_eq_true c11
      clear c11
      by_cases c12 : x21_1 < (l0.length : Int)
      ·rw [if_pos c12] at H
       have c12b0 : decide (x21_1 < (l0.length : Int)) = true := decide_eq_true c12
       clear c12
       by_cases c13 : ((rd_T27 l0 x21_1).f0) ≤ a1
       ·rw [if_pos c13] at H
        have c13b0 : decide (((rd_T27 l0 x21_1).f0) ≤ a1) = true := decide_eq_true c13
        clear c13
        by_cases c14 : x9_1.length < 17592186044416
        ·rw [if_pos c14] at H
         have LMc14 := Aside0.mk c14
         clear c14
         obtain ⟨y246, hy246⟩ : ∃ y_ : List Int, y_ = (x9_1 ++ [(rd_T27 l0 x21_1).f1]) := ⟨_, rfl⟩
         replace H : (impl_TimersDue.l0 k1 a1 x8_1 y246 l0 (l0.length : Int) (wrap64 (x21_1 + 1))) = some (r1, r2, r3) := by first | (rw [hy246]; with_reducible exact H) | (have H2_ := (Option.bind_some _ _).symm.trans H; rw [hy246]; with_reducible exact H2_) | (have H2_ := (Option.bind_some _ _).symm.trans H; with_reducible exact H2_) | with_reducible exact H | (rw [hy246]; exact H) | exact H
         have Ny246 := Aside0.mk hy246
         clear hy246
         have H' := Aside0.mk H
         clear H
         have p244 : 0 ≤ (x21_1 : Int) := of_decide_eq_true (by first | (with_reducible assumption) | assumption)
         have q244 : x21_1 < (l0.length : Int) := of_decide_eq_true (by first | (with_reducible assumption) | assumption)
         obtain ⟨ad244, e244, hx244_0, hx244_1⟩ := at_T27 HR0.out x21_1 p244 q244
         cases e244
         replace hx244_0 := (HB.out.cell (World.block_lt_of_cell? w _ hx244_0)).trans hx244_0
         replace hx244_1 := (HB.out.cell (World.block_lt_of_cell? w _ hx244_1)).trans hx244_1
         replace p244 := eq_true p244
         replace q244 := eq_true q244
         go_wp2_with (first | ((with_reducible refine gate_dst (N := 11) rfl ?_); refine box_event ?hg (N := 11) ?hd (cs := #[.int .i64 0, .int .i64 0]) (t := 27) ?hr ?_; (case hd => rfl); (case hg => rfl); (case hr => first | (go_simp; done) | (go_simp; rfl)); intro gb245 hg w15 hbox hb; have n0_ := Aside0.mk (Kd.R_below (Kd.R_elderB (by (with_reducible repeat (first | apply Kd.R_alloc | apply Kd.R_drewN | apply Kd.R_drew)); exact HO_8.out) gb245 (Nat.le_of_eq hg.symm)) hb); have n1_ := Aside0.mk (Kd.R_below (by (with_reducible repeat (first | apply Kd.R_alloc | apply Kd.R_drewN | apply Kd.R_drew)); exact HO_9.out) hb); have n2_ := Aside0.mk (below_step (by repeat (first | (with_reducible first | exact HB.out | apply below_alloc | apply pw_below_drewN | apply below_drew1) | exact HB.out)) hb); have n3_ := Aside0.mk (hbox); have n4_ := Aside0.mk ((by rw [hg]; exact (below_size (by repeat (first | (with_reducible first | exact HB.out | apply below_alloc | apply pw_below_drewN | apply below_drew1) | exact HB.out))) : w.heap.size ≤ gb245)); have n5_ := Aside0.mk ((by rw [hg]; exact (below_size (by repeat (first | (with_reducible first | exact HB.out | apply below_alloc | apply pw_below_drewN | apply below_drew1) | exact HB.out))) : w.heap.size ≤ gb245)); clear HO_8; clear HO_9; clear HB; have HO_8 := n0_; have HO_9 := n1_; have HB := n2_; have BK245 := n3_; have GW245 := n4_; have GE245 := n5_; clear n0_ n1_ n2_ n3_ n4_ n5_; clear hb hbox hg; have hcz16_0 : w15.cell? ⟨gb245, 0, none⟩ = some (.int .i64 0) := (blk_cell BK245.out 0).trans rfl; have hcz16_1 : w15.cell? ⟨gb245, 1, none⟩ = some (.int .i64 0) := (blk_cell BK245.out 1).trans rfl; have hfz16_0 := blk_frozen BK245.out 0; have hfz16_1 := blk_frozen BK245.out 1) | ((with_reducible refine gate_builtin (b := .append) (xs := #[.tmp 29, .tmp 32]) rfl ?_); at_builtin; refine Kd.R_append (Kd.int .i64) (w0 := w) w.heap.size rfl (.tmp 29) (.tmp 32) 30 3 (.int .i64 0) 8 rfl Try.underlying30 info3 rfl (by decide) (by omega) u9 x9_1 ((rd_T27 l0 x21_1).f1) [.int .i64 ((rd_T27 l0 x21_1).f1)] (fun _ => True) (fun _ => False) rfl (by first | (go_simp; done) | (go_simp; rfl)) ?aP (fun _ hk => hk.elim) ?aF ?aO ?aB ?aS ?aL ?_; (case aP => exact rfl); (case aB => exact (by repeat (first | (with_reducible first | exact HB.out | apply below_alloc | apply pw_below_drewN | apply below_drew1 | refine below_set ?_ GE245.out) | exact HB.out))); (case aF => exact (fun _ _ => trivial)); (case aO => exact (by (with_reducible repeat (first | apply Kd.R_alloc | apply Kd.R_drewN | apply Kd.R_drew)); exact Kd.R_mono (Kd.R_far (p := ⟨gb245, 1, none⟩) (Kd.R_far (p := ⟨gb245, 0, none⟩) (Kd.R_types HO_9.out BK245.out (by decide)) (fun _ hk => by first | trivial | exact hk.2 | exact hk.2 | exact hk.1 | exact hk | exact hk.1.2 | exact hk.1.1 | exact hk.2.1 | exact hk.2.2) (.int .i64 ((rd_T27 l0 x21_1).f0))) (fun _ hk => by first | trivial | exact hk.2 | exact hk.2 | exact hk.1 | exact hk | exact hk.1.2 | exact hk.1.1 | exact hk.2.1 | exact hk.2.2) (.int .i64 ((rd_T27 l0 x21_1).f1))) (fun _ hk => trivial))); (case aS => exact (below_size (by repeat (first | (with_reducible first | exact HB.out | apply below_alloc | apply pw_below_drewN | apply below_drew1 | refine below_set ?_ GE245.out) | exact HB.out)))); (case aL => have := LMc14.out; omega); intro v247 w17 ho hb hg hat; rw [← Ny246.out] at ho; have n0_ := Aside0.mk (Kd.R_over' (by (with_reducible repeat (first | apply Kd.R_alloc | apply Kd.R_drewN | apply Kd.R_drew)); exact (Kd.R_mono (Kd.R_far (p := ⟨gb245, 1, none⟩) (Kd.R_far (p := ⟨gb245, 0, none⟩) (Kd.R_mono HO_8.out (fun k_ hk => (⟨hk, hk.2⟩ : _ ∧ k_ ≠ gb245))) (fun _ hk => by first | trivial | exact hk.2 | exact hk.2 | exact hk.1 | exact hk | exact hk.1.2 | exact hk.1.1 | exact hk.2.1 | exact hk.2.2) (.int .i64 ((rd_T27 l0 x21_1).f0))) (fun _ hk => by first | trivial | exact hk.2 | exact hk.2 | exact hk.1 | exact hk | exact hk.1.2 | exact hk.1.1 | exact hk.2.1 | exact hk.2.2) (.int .i64 ((rd_T27 l0 x21_1).f1))) (fun _ h_ => h_.1))) (Kd.R_typed (by (with_reducible repeat (first | apply Kd.R_alloc | apply Kd.R_drewN | apply Kd.R_drew)); exact (Kd.R_mono (Kd.R_far (p := ⟨gb245, 1, none⟩) (Kd.R_far (p := ⟨gb245, 0, none⟩) (Kd.R_types HO_9.out BK245.out (by decide)) (fun _ hk => by first | trivial | exact hk.2 | exact hk.2 | exact hk.1 | exact hk | exact hk.1.2 | exact hk.1.1 | exact hk.2.1 | exact hk.2.2) (.int .i64 ((rd_T27 l0 x21_1).f0))) (fun _ hk => by first | trivial | exact hk.2 | exact hk.2 | exact hk.1 | exact hk | exact hk.1.2 | exact hk.1.1 | exact hk.2.1 | exact hk.2.2) (.int .i64 ((rd_T27 l0 x21_1).f1))) (fun _ h_ => h_.1)))) (by decide) hg); have n1_ := Aside0.mk (blk_grown (g := gb245) (o := .cells #[.int .i64 ((rd_T27 l0 x21_1).f0), .int .i64 ((rd_T27 l0 x21_1).f1)] 27 (0, 0)) (by (with_reducible repeat (first | refine blk_drewN ?_ _ | refine blk_drew ?_ | refine blk_alloc ?_ _)); refine blk_put (cs := #[.int .i64 ((rd_T27 l0 x21_1).f0), .int .i64 0]) ?_ 1 _ rfl; (with_reducible repeat (first | refine blk_drewN ?_ _ | refine blk_drew ?_ | refine blk_alloc ?_ _)); refine blk_put (cs := #[.int .i64 0, .int .i64 0]) ?_ 0 _ rfl; (with_reducible repeat (first | refine blk_drewN ?_ _ | refine blk_drew ?_ | refine blk_alloc ?_ _)); exact BK245.out) hg (Kd.R_ne HO_9.out BK245.out (by decide))); have n2_ := Aside0.mk (hb); have n3_ := Aside0.mk (ho); clear HO_8; clear BK245; clear HB; clear HO_9; have HO_8 := n0_; have BK245 := n1_; have HB := n2_; have HO248 := n3_; clear n0_ n1_ n2_ n3_; clear ho hb hg hat))
         go_roundg k1
         case measure => have := HK1.out; omega
         case rel => exact ⟨(x8_1), (y246), (wrap64 (x21_1 + 1)), (by first | rfl | (simp; done) | (simp [*]; done)), H', ⟨by have := HK1.out; omega⟩, ⟨by (with_reducible repeat (first | apply Kd.R_alloc | apply Kd.R_drewN | apply Kd.R_drew)); exact Kd.R_mono HO_8.out (fun _ hk => trivial)⟩, ⟨by (with_reducible repeat (first | apply Kd.R_alloc | apply Kd.R_drewN | apply Kd.R_drew)); exact HO248.out⟩, ⟨by repeat (first | (with_reducible first | exact HB.out | apply below_alloc | apply pw_below_drewN | apply below_drew1 | refine below_set ?_ GE245.out) | exact HB.out)⟩⟩
        ·rw [if_neg c14] at H
         exact absurd H (by simp)
       ·rw [if_neg c13] at H
        have c13b0 : decide (((rd_T27 l0 x21_1).f0) ≤ a1) = false := decide_eq_false c13
        clear c13
        by_cases c18 : x8_1.length < 8796093022208
        ·rw [if_pos c18] at H
         have LMc18 := Aside0.mk c18
         clear c18
         obtain ⟨y249, hy249⟩ : ∃ y_ : List (S27), y_ = (x8_1 ++ [(⟨(rd_T27 l0 x21_1).f0, (rd_T27 l0 x21_1).f1⟩ : S27)]) := ⟨_, rfl⟩
         replace H : (impl_TimersDue.l0 k1 a1 y249 x9_1 l0 (l0.length : Int) (wrap64 (x21_1 + 1))) = some (r1, r2, r3) := by first | (rw [hy249]; with_reducible exact H) | (have H2_ := (Option.bind_some _ _).symm.trans H; rw [hy249]; with_reducible exact H2_) | (have H2_ := (Option.bind_some _ _).symm.trans H; with_reducible exact H2_) | with_reducible exact H | (rw [hy249]; exact H) | exact H
         have Ny249 := Aside0.mk hy249
         clear hy249
         have H' := Aside0.mk H
         clear H
         have p244 : 0 ≤ (x21_1 : Int) := of_decide_eq_true (by first | (with_reducible assumption) | assumption)
         have q244 : x21_1 < (l0.length : Int) := of_decide_eq_true (by first | (with_reducible assumption) | assumption)
         obtain ⟨ad244, e244, hx244_0, hx244_1⟩ := at_T27 HR0.out x21_1 p244 q244
         cases e244
         replace hx244_0 := (HB.out.cell (World.block_lt_of_cell? w _ hx244_0)).trans hx244_0
         replace hx244_1 := (HB.out.cell (World.block_lt_of_cell? w _ hx244_1)).trans hx244_1
         replace p244 := eq_true p244
         replace q244 := eq_true q244
         go_wp2_with (first | ((with_reducible refine gate_dst (N := 11) rfl ?_); refine box_event ?hg (N := 11) ?hd (cs := #[.int .i64 0, .int .i64 0]) (t := 27) ?hr ?_; (case hd => rfl); (case hg => rfl); (case hr => first | (go_simp; done) | (go_simp; rfl)); intro gb245 hg w19 hbox hb; have n0_ := Aside0.mk (Kd.R_below (Kd.R_elderB (by (with_reducible repeat (first | apply Kd.R_alloc | apply Kd.R_drewN | apply Kd.R_drew)); exact HO_8.out) gb245 (Nat.le_of_eq hg.symm)) hb); have n1_ := Aside0.mk (Kd.R_below (by (with_reducible repeat (first | apply Kd.R_alloc | apply Kd.R_drewN | apply Kd.R_drew)); exact HO_9.out) hb); have n2_ := Aside0.mk (below_step (by repeat (first | (with_reducible first | exact HB.out | apply below_alloc | apply pw_below_drewN | apply below_drew1) | exact HB.out)) hb); have n3_ := Aside0.mk (hbox); have n4_ := Aside0.mk ((by rw [hg]; exact (below_size (by repeat (first | (with_reducible first | exact HB.out | apply below_alloc | apply pw_below_drewN | apply below_drew1) | exact HB.out))) : w.heap.size ≤ gb245)); have n5_ := Aside0.mk ((by rw [hg]; exact (below_size (by repeat (first | (with_reducible first | exact HB.out | apply below_alloc | apply pw_below_drewN | apply below_drew1) | exact HB.out))) : w.heap.size ≤ gb245)); clear HO_8; clear HO_9; clear HB; have HO_8 := n0_; have HO_9 := n1_; have HB := n2_; have BK245 := n3_; have GW245 := n4_; have GE245 := n5_; clear n0_ n1_ n2_ n3_ n4_ n5_; clear hb hbox hg; have hcz20_0 : w19.cell? ⟨gb245, 0, none⟩ = some (.int .i64 0) := (blk_cell BK245.out 0).trans rfl; have hcz20_1 : w19.cell? ⟨gb245, 1, none⟩ = some (.int .i64 0) := (blk_cell BK245.out 1).trans rfl; have hfz20_0 := blk_frozen BK245.out 0; have hfz20_1 := blk_frozen BK245.out 1) | ((with_reducible refine gate_builtin (b := .append) (xs := #[.tmp 34, .tmp 36]) rfl ?_); at_builtin; refine Kd.R_append k27 (w0 := w) w.heap.size rfl (.tmp 34) (.tmp 36) 23 27 (.agg #[(.int .i64 0), (.int .i64 0)]) 16 rfl Try.underlying23 info27 rfl (by decide) (by omega) u8 x8_1 (⟨(rd_T27 l0 x21_1).f0, (rd_T27 l0 x21_1).f1⟩ : S27) [.int .i64 ((rd_T27 l0 x21_1).f0), .int .i64 ((rd_T27 l0 x21_1).f1)] (fun k_ => k_ ≠ gb245) (fun _ => False) rfl (by first | (go_simp; done) | (go_simp; rfl)) ?aP (fun _ hk => hk.elim) ?aF ?aO ?aB ?aS ?aL ?_; (case aP => exact k27_mkM _ _ _ (⟨(rd_T27 l0 x21_1).f0, (rd_T27 l0 x21_1).f1⟩ : S27)); (case aB => exact (by repeat (first | (with_reducible first | exact HB.out | apply below_alloc | apply pw_below_drewN | apply below_drew1 | refine below_set ?_ GE245.out) | exact HB.out))); (case aF => exact (fun k_ hk => Kd.freshB (g := gb245) (o := .cells #[.int .i64 ((rd_T27 l0 x21_1).f0), .int .i64 ((rd_T27 l0 x21_1).f1)] 27 (0, 0)) (by (with_reducible repeat (first | refine blk_drewN ?_ _ | refine blk_drew ?_ | refine blk_alloc ?_ _)); refine blk_put (cs := #[.int .i64 ((rd_T27 l0 x21_1).f0), .int .i64 0]) ?_ 1 _ rfl; (with_reducible repeat (first | refine blk_drewN ?_ _ | refine blk_drew ?_ | refine blk_alloc ?_ _)); refine blk_put (cs := #[.int .i64 0, .int .i64 0]) ?_ 0 _ rfl; (with_reducible repeat (first | refine blk_drewN ?_ _ | refine blk_drew ?_ | refine blk_alloc ?_ _)); exact BK245.out) k_ hk)); (case aO => exact (by (with_reducible repeat (first | apply Kd.R_alloc | apply Kd.R_drewN | apply Kd.R_drew)); exact Kd.R_mono (Kd.R_far (p := ⟨gb245, 1, none⟩) (Kd.R_far (p := ⟨gb245, 0, none⟩) (Kd.R_mono HO_8.out (fun k_ hk => (⟨hk, hk.2⟩ : _ ∧ k_ ≠ gb245))) (fun _ hk => by first | trivial | exact hk.2 | exact hk.2 | exact hk.1 | exact hk | exact hk.1.2 | exact hk.1.1 | exact hk.2.1 | exact hk.2.2) (.int .i64 ((rd_T27 l0 x21_1).f0))) (fun _ hk => by first | trivial | exact hk.2 | exact hk.2 | exact hk.1 | exact hk | exact hk.1.2 | exact hk.1.1 | exact hk.2.1 | exact hk.2.2) (.int .i64 ((rd_T27 l0 x21_1).f1))) (fun _ hk => by first | trivial | exact hk.1.2 | exact hk | exact hk.2 | exact hk.1 | exact hk.1.2 | exact hk.1.1 | exact hk.2.1 | exact hk.2.2))); (case aS => exact (below_size (by repeat (first | (with_reducible first | exact HB.out | apply below_alloc | apply pw_below_drewN | apply below_drew1 | refine below_set ?_ GE245.out) | exact HB.out)))); (case aL => have := LMc18.out; omega); intro v250 w21 ho hb hg hat; rw [← Ny249.out] at ho; have n0_ := Aside0.mk (Kd.R_over' (by (with_reducible repeat (first | apply Kd.R_alloc | apply Kd.R_drewN | apply Kd.R_drew)); exact (Kd.R_mono (Kd.R_far (p := ⟨gb245, 1, none⟩) (Kd.R_far (p := ⟨gb245, 0, none⟩) (Kd.R_types HO_9.out BK245.out (by decide)) (fun _ hk => by first | trivial | exact hk.2 | exact hk.2 | exact hk.1 | exact hk | exact hk.1.2 | exact hk.1.1 | exact hk.2.1 | exact hk.2.2) (.int .i64 ((rd_T27 l0 x21_1).f0))) (fun _ hk => by first | trivial | exact hk.2 | exact hk.2 | exact hk.1 | exact hk | exact hk.1.2 | exact hk.1.1 | exact hk.2.1 | exact hk.2.2) (.int .i64 ((rd_T27 l0 x21_1).f1))) (fun _ h_ => h_.1))) (Kd.R_typed (by (with_reducible repeat (first | apply Kd.R_alloc | apply Kd.R_drewN | apply Kd.R_drew)); exact (Kd.R_mono (Kd.R_far (p := ⟨gb245, 1, none⟩) (Kd.R_far (p := ⟨gb245, 0, none⟩) (Kd.R_mono HO_8.out (fun k_ hk => (⟨hk, hk.2⟩ : _ ∧ k_ ≠ gb245))) (fun _ hk => by first | trivial | exact hk.2 | exact hk.2 | exact hk.1 | exact hk | exact hk.1.2 | exact hk.1.1 | exact hk.2.1 | exact hk.2.2) (.int .i64 ((rd_T27 l0 x21_1).f0))) (fun _ hk => by first | trivial | exact hk.2 | exact hk.2 | exact hk.1 | exact hk | exact hk.1.2 | exact hk.1.1 | exact hk.2.1 | exact hk.2.2) (.int .i64 ((rd_T27 l0 x21_1).f1))) (fun _ h_ => h_.1)))) (by decide) hg); have n1_ := Aside0.mk (blk_grown (g := gb245) (o := .cells #[.int .i64 ((rd_T27 l0 x21_1).f0), .int .i64 ((rd_T27 l0 x21_1).f1)] 27 (0, 0)) (by (with_reducible repeat (first | refine blk_drewN ?_ _ | refine blk_drew ?_ | refine blk_alloc ?_ _)); refine blk_put (cs := #[.int .i64 ((rd_T27 l0 x21_1).f0), .int .i64 0]) ?_ 1 _ rfl; (with_reducible repeat (first | refine blk_drewN ?_ _ | refine blk_drew ?_ | refine blk_alloc ?_ _)); refine blk_put (cs := #[.int .i64 0, .int .i64 0]) ?_ 0 _ rfl; (with_reducible repeat (first | refine blk_drewN ?_ _ | refine blk_drew ?_ | refine blk_alloc ?_ _)); exact BK245.out) hg (Kd.R_away HO_8.out (fun _ hk => by first | trivial | exact hk.2 | exact hk.2 | exact hk.1 | exact hk | exact hk.1.2 | exact hk.1.1 | exact hk.2.1 | exact hk.2.2))); have n2_ := Aside0.mk (hb); have n3_ := Aside0.mk (ho); clear HO_9; clear BK245; clear HB; clear HO_8; have HO_9 := n0_; have BK245 := n1_; have HB := n2_; have HO251 := n3_; clear n0_ n1_ n2_ n3_; clear ho hb hg hat))
         go_roundg k1
         case measure => have := HK1.out; omega
         case rel => exact ⟨(y249), (x9_1), (wrap64 (x21_1 + 1)), (by first | rfl | (simp; done) | (simp [*]; done)), H', ⟨by have := HK1.out; omega⟩, ⟨by (with_reducible repeat (first | apply Kd.R_alloc | apply Kd.R_drewN | apply Kd.R_drew)); exact Kd.R_mono HO251.out (fun _ hk => trivial)⟩, ⟨by (with_reducible repeat (first | apply Kd.R_alloc | apply Kd.R_drewN | apply Kd.R_drew)); exact HO_9.out⟩, ⟨by repeat (first | (with_reducible first | exact HB.out | apply below_alloc | apply pw_below_drewN | apply below_drew1 | refine below_set ?_ GE245.out) | exact HB.out)⟩⟩
        ·rw [if_neg c18] at H
         exact absurd H (by simp)
      ·rw [if_neg c12] at H
       exact absurd H (by simp)
     ·rw [if_neg c11] at H
      exact absurd H (by simp)
    ·rw [if_neg c10] at H
     have c10b0 : decide (x21_1 < (l0.length : Int)) = false := decide_eq_false c10
     clear c10
     simp only [Option.some.injEq, Prod.mk.injEq] at H
     obtain ⟨rfl, rfl, rfl⟩ := H
     go_wp2
     go_ret3
     exact ⟨_, _, by first | rfl | (simp [errW_none, errW_some] <;> rfl) | (simp [*, errW_none, errW_some] <;> rfl), by (with_reducible repeat (first | apply Kd.R_alloc | apply Kd.R_drewN | apply Kd.R_drew)); exact HO_8.out, by (with_reducible repeat (first | apply Kd.R_alloc | apply Kd.R_drewN | apply Kd.R_drew)); exact HO_9.out, by repeat (first | (with_reducible first | exact HB.out | apply below_alloc | apply pw_below_drewN | apply below_drew1) | exact HB.out)⟩
 ·rw [if_neg c4] at H
  have c4b0 : (t237 == 0) = false := beq_eq_false_iff_ne.mpr c4
  have c4b1 : (t237 != 0) = true := bne_iff_ne.mpr c4
  simp only [Option.some.injEq, Prod.mk.injEq] at H
  obtain ⟨rfl, rfl, rfl⟩ := H
  go_enter Try.func11, Try.ntmps11
  go_wp2_with (first | ((with_reducible refine gate_callee (f := 28) rfl ?_); refine goesL_ (some 13) rfl rfl Try.func28 (by kernel_rfl) rfl #[.slice A0 l0.length c0] rfl (by (try simp only [List.map_toArray, List.map_cons, List.map_nil]); first | done | rfl | (simp only [List.length_drop, List.length_take]; rfl)) ?_; (with_reducible refine (impl_timersFault.calls k _ _ l0 t237 _ ?side1 ?side2 A3.out).mono ?_); (case side1 => repeat (first | exact HR0.out | (with_reducible refine Kd.C_alloc ?_ _) | (with_reducible refine Kd.C_drewN ?_ _) | (with_reducible refine Kd.C_drew ?_))); (case side2 => exact HC0.out); rintro e w22 ⟨rfl, hb⟩; refine ⟨_, rfl, ?_⟩; have n0_ := Aside0.mk (below_step (by repeat (first | (with_reducible first | exact HB.out | apply below_alloc | apply pw_below_drewN | apply below_drew1) | exact HB.out)) hb); clear HB; have HB := n0_; clear n0_; (try clear hb); (try clear hb2); (try clear hk); (try clear hi)))
  go_ret3
  exact ⟨_, _, by first | rfl | (simp [errW_none, errW_some] <;> rfl) | (simp [*, errW_none, errW_some] <;> rfl), by first | exact Kd.R_nil _ _ _ _ _ | exact Kd.N_nil _ _ _ _ _ | exact Kd.V_nil _ _ _ _ _ | exact Kd.Q_nil _ _ _ _ _ | exact Kd.S_nil _ _ _ _ _, by first | exact Kd.R_nil _ _ _ _ _ | exact Kd.N_nil _ _ _ _ _ | exact Kd.V_nil _ _ _ _ _ | exact Kd.Q_nil _ _ _ _ _ | exact Kd.S_nil _ _ _ _ _, by repeat (first | (with_reducible first | exact HB.out | apply below_alloc | apply pw_below_drewN | apply below_drew1) | exact HB.out)⟩

end Go.Proofs.Ytnofpkbihecabaa.PTf
