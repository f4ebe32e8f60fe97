-- Printed by this session's own program (wip/tools/myprint.py over the kit's print, out of the translation). Nothing here is trusted: Lean checks it.
import Derived.Test.YthfhflgiblmooaaZFsPx0
import Derived.Test.YthfhflgiblmooaaZFsPx4
import Derived.Test.YthfhflgiblmooaaZFsPx9
import Derived.Test.YthfhflgiblmooaaZFsPx10
namespace Go.Proofs.Ythfhflgiblmooaa.PFs
open Go.RowKit Go.Proofs.YthfhflgiblmooaaW.PrintWords Go.Proofs.YthfhflgiblmooaaW.PrintLast Go.Proofs.YthfhflgiblmooaaW.PrintMore
attribute [local go_sem] w64_u8 w64_u8_4 max2_int min2_int max_two min_two max_three min_three max_four min_four   -- for this text's walks alone
set_option linter.unusedVariables false
set_option linter.unusedSimpArgs false

/-! ### impl_SegmentBytes: function 43 -/
def impl_SegmentBytes.j0 : Nat → Int → Int → Bool → Int → Int → Int → Int → Int → Int → ByteArray → Option (List Int × Int)
 | 0, _, _, _, _, _, _, _, _, _, _ => none
 | k + 1, x0, x1, x20, x283000, x283001, x283002, x283003, x283004, x283005, x283006 => if x20 = true then (some (([] : List Int), 1)) else ((impl_segmentBytes.f k x0 x1 x283000 x283001 x283002 x283003 x283004 x283005 x283006).bind fun t286 => (some (t286, 0)))
def impl_SegmentBytes.f (k : Nat) (a0 : Int) (a1 : Int) (a2_0 : Int) (a2_1 : Int) (a2_2 : Int) (a2_3 : Int) (a2_4 : Int) (a2_5 : Int) (a2_6 : ByteArray) : Option (List Int × Int) := (impl_isAddress.f a0).bind fun t283 => (if t283 = true then ((impl_isAddress.f a1).bind fun t284 => (if t284 = true then ((impl_segmentOK.f a2_0 a2_1 a2_2 a2_3 a2_4 a2_5 a2_6).bind fun t285 => (impl_SegmentBytes.j0 k a0 a1 (!t285) a2_0 a2_1 a2_2 a2_3 a2_4 a2_5 a2_6)) else (impl_SegmentBytes.j0 k a0 a1 true a2_0 a2_1 a2_2 a2_3 a2_4 a2_5 a2_6))) else (impl_SegmentBytes.j0 k a0 a1 true a2_0 a2_1 a2_2 a2_3 a2_4 a2_5 a2_6))
set_option maxHeartbeats 8000000 in
set_option maxRecDepth 100000 in
theorem impl_SegmentBytes.calls (k : Nat) (a0 : Int) (a1 : Int) (a2_0 : Int) (a2_1 : Int) (a2_2 : Int) (a2_3 : Int) (a2_4 : Int) (a2_5 : Int) (a2_6 : ByteArray) (r1 : List Int) (r2 : Int) (w : World) (h : impl_SegmentBytes.f k a0 a1 a2_0 a2_1 a2_2 a2_3 a2_4 a2_5 a2_6 = some (r1, r2)) :
  Calls Try.prog 43 #[.int .i64 a0, .int .i64 a1, .agg #[.int .i64 a2_0, .int .i64 a2_1, .int .i64 a2_2, .int .i64 a2_3, .int .i64 a2_4, .int .i64 a2_5, .string a2_6]] w fun e w' => ∃ v0_ : Value, e = .returned (.tuple #[v0_, .int .i64 r2]) ∧ Kd.R (Kd.int .u8) 5 w' w.heap.size (fun _ => True) v0_ r1 ∧ Below w.heap.size w w' := by
 have hu67 := Try.underlying67
 have HB := Aside0.mk (Below.refl w.heap.size w)
 have H : ((impl_isAddress.f a0).bind fun t283 => (if t283 = true then ((impl_isAddress.f a1).bind fun t284 => (if t284 = true then ((impl_segmentOK.f a2_0 a2_1 a2_2 a2_3 a2_4 a2_5 a2_6).bind fun t285 => (impl_SegmentBytes.j0 k a0 a1 (!t285) a2_0 a2_1 a2_2 a2_3 a2_4 a2_5 a2_6)) else (impl_SegmentBytes.j0 k a0 a1 true a2_0 a2_1 a2_2 a2_3 a2_4 a2_5 a2_6))) else (impl_SegmentBytes.j0 k a0 a1 true a2_0 a2_1 a2_2 a2_3 a2_4 a2_5 a2_6))) = some (r1, r2) := h
 clear h
 have HC4 := Aside0.mk H
 clear H
 go_enter Try.func43, Try.ntmps43
 go_upto_region 1 with (first | ((with_reducible refine gate_dst (N := 5) rfl ?_); refine box_event ?hg (N := 5) ?hd (cs := #[.int .i64 a2_0, .int .i64 a2_1, .int .i64 a2_2, .int .i64 a2_3, .int .i64 a2_4, .int .i64 a2_5, .string a2_6]) (t := 67) ?hr ?_; (case hd => rfl); (case hg => rfl); (case hr => first | (go_simp; done) | (go_simp; rfl)); intro gb282 hg w5 hbox hb; have n0_ := Aside0.mk (below_step (by repeat (first | (with_reducible first | exact HB.out | apply below_alloc | apply pw_below_drewN | apply below_drew1) | exact HB.out)) hb); have n1_ := Aside0.mk (hbox); have n2_ := Aside0.mk ((by rw [hg]; exact (below_size (by repeat (first | (with_reducible first | exact HB.out | apply below_alloc | apply pw_below_drewN | apply below_drew1) | exact HB.out))) : w.heap.size ≤ gb282)); have n3_ := Aside0.mk ((by rw [hg]; exact (below_size (by repeat (first | (with_reducible first | exact HB.out | apply below_alloc | apply pw_below_drewN | apply below_drew1) | exact HB.out))) : w.heap.size ≤ gb282)); clear HB; have HB := n0_; have BK282 := n1_; have GW282 := n2_; have GE282 := n3_; clear n0_ n1_ n2_ n3_; clear hb hbox hg))
 (try simp only [Act.put, List.setIfInBounds_toArray, List.set_cons_zero, List.set_cons_succ])
 go_cut [20] (fun v20 wc => ∃ (kq : Nat) (x20_3 : Bool), v20 = .bool x20_3 ∧ Aside0 (impl_SegmentBytes.j0 kq a0 a1 x20_3 a2_0 a2_1 a2_2 a2_3 a2_4 a2_5 a2_6 = some (r1, r2)) ∧ Aside0 (kq ≤ k) ∧ Aside0 (wc.heap[gb282]? = some (.cells #[.int .i64 a2_0, .int .i64 a2_1, .int .i64 a2_2, .int .i64 a2_3, .int .i64 a2_4, .int .i64 a2_5, .string a2_6] 67 (0, 0))) ∧ Aside0 (Below w.heap.size w wc))
 case first =>
  have H := HC4.out
  clear HC4
  replace H := Option.bind_eq_some_iff.mp H
  obtain ⟨t283, A60, H⟩ := H
  replace H : (if t283 = true then ((impl_isAddress.f a1).bind fun t284 => (if t284 = true then ((impl_segmentOK.f a2_0 a2_1 a2_2 a2_3 a2_4 a2_5 a2_6).bind fun t285 => (impl_SegmentBytes.j0 k a0 a1 (!t285) a2_0 a2_1 a2_2 a2_3 a2_4 a2_5 a2_6)) else (impl_SegmentBytes.j0 k a0 a1 true a2_0 a2_1 a2_2 a2_3 a2_4 a2_5 a2_6))) else (impl_SegmentBytes.j0 k a0 a1 true a2_0 a2_1 a2_2 a2_3 a2_4 a2_5 a2_6)) = some (r1, r2) := H
  have A6 := Aside0.mk A60
  clear A60
  by_cases c7 : t283 = true
  ·subst c7
   have H1 : ((impl_isAddress.f a1).bind fun t284 => (if t284 = true then ((impl_segmentOK.f a2_0 a2_1 a2_2 a2_3 a2_4 a2_5 a2_6).bind fun t285 => (impl_SegmentBytes.j0 k a0 a1 (!t285) a2_0 a2_1 a2_2 a2_3 a2_4 a2_5 a2_6)) else (impl_SegmentBytes.j0 k a0 a1 true a2_0 a2_1 a2_2 a2_3 a2_4 a2_5 a2_6))) = some (r1, r2) := by rw [if_pos rfl] at H; exact H
   clear H
   have H := H1
   clear H1
   replace H := Option.bind_eq_some_iff.mp H
   obtain ⟨t284, A80, H⟩ := H
   replace H : (if t284 = true then ((impl_segmentOK.f a2_0 a2_1 a2_2 a2_3 a2_4 a2_5 a2_6).bind fun t285 => (impl_SegmentBytes.j0 k a0 a1 (!t285) a2_0 a2_1 a2_2 a2_3 a2_4 a2_5 a2_6)) else (impl_SegmentBytes.j0 k a0 a1 true a2_0 a2_1 a2_2 a2_3 a2_4 a2_5 a2_6)) = some (r1, r2) := H
   have A8 := Aside0.mk A80
   clear A80
   by_cases c9 : t284 = true
   ·subst c9
    have H1 : ((impl_segmentOK.f a2_0 a2_1 a2_2 a2_3 a2_4 a2_5 a2_6).bind fun t285 => (impl_SegmentBytes.j0 k a0 a1 (!t285) a2_0 a2_1 a2_2 a2_3 a2_4 a2_5 a2_6)) = some (r1, r2) := by rw [if_pos rfl] at H; exact H
    clear H
    have H := H1
    clear H1
    replace H := Option.bind_eq_some_iff.mp H
    obtain ⟨t285, A100, H⟩ := H
    replace H : (impl_SegmentBytes.j0 k a0 a1 (!t285) a2_0 a2_1 a2_2 a2_3 a2_4 a2_5 a2_6) = some (r1, r2) := H
    have A10 := Aside0.mk A100
    clear A100
    have H' := Aside0.mk H
    clear H
    go_wp2_with (first | ((with_reducible refine gate_callee (f := 73) rfl ?_); refine goesL_ (some 9) rfl rfl Try.func73 (by kernel_rfl) rfl #[.int .i64 a0] rfl (by (try simp only [List.map_toArray, List.map_cons, List.map_nil]); first | done | rfl | (simp only [List.length_drop, List.length_take]; rfl)) ?_; (with_reducible refine (impl_isAddress.calls a0 true _ A6.out).mono ?_); rintro e w' ⟨rfl, ⟨nd, rfl⟩⟩; refine ⟨_, rfl, ?_⟩) | (go_at_call 73; (with_reducible refine (impl_isAddress.calls a1 true _ A8.out).mono ?_); rintro e w' ⟨rfl, ⟨nd, rfl⟩⟩; have hcz11_0 : w5.cell? ⟨gb282, 0, none⟩ = some (.int .i64 a2_0) := (blk_cell BK282.out 0).trans rfl; have hcz11_1 : w5.cell? ⟨gb282, 1, none⟩ = some (.int .i64 a2_1) := (blk_cell BK282.out 1).trans rfl; have hcz11_2 : w5.cell? ⟨gb282, 2, none⟩ = some (.int .i64 a2_2) := (blk_cell BK282.out 2).trans rfl; have hcz11_3 : w5.cell? ⟨gb282, 3, none⟩ = some (.int .i64 a2_3) := (blk_cell BK282.out 3).trans rfl; have hcz11_4 : w5.cell? ⟨gb282, 4, none⟩ = some (.int .i64 a2_4) := (blk_cell BK282.out 4).trans rfl; have hcz11_5 : w5.cell? ⟨gb282, 5, none⟩ = some (.int .i64 a2_5) := (blk_cell BK282.out 5).trans rfl; have hcz11_6 : w5.cell? ⟨gb282, 6, none⟩ = some (.string a2_6) := (blk_cell BK282.out 6).trans rfl; have hfz11_0 := blk_frozen BK282.out 0; have hfz11_1 := blk_frozen BK282.out 1; have hfz11_2 := blk_frozen BK282.out 2; have hfz11_3 := blk_frozen BK282.out 3; have hfz11_4 := blk_frozen BK282.out 4; have hfz11_5 := blk_frozen BK282.out 5; have hfz11_6 := blk_frozen BK282.out 6) | (go_at_call 86; (with_reducible refine (impl_segmentOK.calls a2_0 a2_1 a2_2 a2_3 a2_4 a2_5 a2_6 t285 _ A10.out).mono ?_); rintro e w12 ⟨rfl, hb⟩; have n0_ := Aside0.mk (blk_below (g := gb282) (o := .cells #[.int .i64 a2_0, .int .i64 a2_1, .int .i64 a2_2, .int .i64 a2_3, .int .i64 a2_4, .int .i64 a2_5, .string a2_6] 67 (0, 0)) (by (with_reducible repeat (first | refine blk_drewN ?_ _ | refine blk_drew ?_ | refine blk_alloc ?_ _)); exact BK282.out) hb); have n1_ := Aside0.mk (below_step (by repeat (first | (with_reducible first | exact HB.out | apply below_alloc | apply pw_below_drewN | apply below_drew1 | refine below_set ?_ GE282.out) | exact HB.out)) hb); clear BK282; clear HB; have BK282 := n0_; have HB := n1_; clear n0_ n1_; (try clear hb); (try clear hb2); (try clear hk); (try clear hi)))
    go_meet
    case rel => exact ⟨_, (!t285), (by first | rfl | (simp; done) | (simp [*]; done)), H', ⟨by first | omega | exact Nat.le_refl _⟩, ⟨by (with_reducible repeat (first | refine blk_drewN ?_ _ | refine blk_drew ?_ | refine blk_alloc ?_ _)); exact BK282.out⟩, ⟨by repeat (first | (with_reducible first | exact HB.out | apply below_alloc | apply pw_below_drewN | apply below_drew1 | refine below_set ?_ GE282.out) | exact HB.out)⟩⟩
   ·replace c9 := Bool.eq_false_iff.mpr c9
    subst c9
    have H1 : (impl_SegmentBytes.j0 k a0 a1 true a2_0 a2_1 a2_2 a2_3 a2_4 a2_5 a2_6) = some (r1, r2) := by rw [if_neg (show ¬ (false = true) by decide)] at H; exact H
    clear H
    have H := H1
    clear H1
    have H' := Aside0.mk H
    clear H
    go_wp2_with (first | ((with_reducible refine gate_callee (f := 73) rfl ?_); refine goesL_ (some 9) rfl rfl Try.func73 (by kernel_rfl) rfl #[.int .i64 a0] rfl (by (try simp only [List.map_toArray, List.map_cons, List.map_nil]); first | done | rfl | (simp only [List.length_drop, List.length_take]; rfl)) ?_; (with_reducible refine (impl_isAddress.calls a0 true _ A6.out).mono ?_); rintro e w' ⟨rfl, ⟨nd, rfl⟩⟩; refine ⟨_, rfl, ?_⟩) | (go_at_call 73; (with_reducible refine (impl_isAddress.calls a1 false _ A8.out).mono ?_); rintro e w' ⟨rfl, ⟨nd, rfl⟩⟩))
    go_meet
    case rel => exact ⟨_, (true), (by first | rfl | (simp; done) | (simp [*]; done)), H', ⟨by first | omega | exact Nat.le_refl _⟩, ⟨by (with_reducible repeat (first | refine blk_drewN ?_ _ | refine blk_drew ?_ | refine blk_alloc ?_ _)); exact BK282.out⟩, ⟨by repeat (first | (with_reducible first | exact HB.out | apply below_alloc | apply pw_below_drewN | apply below_drew1 | refine below_set ?_ GE282.out) | exact HB.out)⟩⟩
  ·replace c7 := Bool.eq_false_iff.mpr c7
   subst c7
   have H1 : (impl_SegmentBytes.j0 k a0 a1 true a2_0 a2_1 a2_2 a2_3 a2_4 a2_5 a2_6) = some (r1, r2) := by rw [if_neg (show ¬ (false = true) by decide)] at H; exact H
   clear H
   have H := H1
   clear H1
   have H' := Aside0.mk H
   clear H
   go_wp2_with (first | ((with_reducible refine gate_callee (f := 73) rfl ?_); refine goesL_ (some 9) rfl rfl Try.func73 (by kernel_rfl) rfl #[.int .i64 a0] rfl (by (try simp only [List.map_toArray, List.map_cons, List.map_nil]); first | done | rfl | (simp only [List.length_drop, List.length_take]; rfl)) ?_; (with_reducible refine (impl_isAddress.calls a0 false _ A6.out).mono ?_); rintro e w' ⟨rfl, ⟨nd, rfl⟩⟩; refine ⟨_, rfl, ?_⟩))
   go_meet
   case rel => exact ⟨_, (true), (by first | rfl | (simp; done) | (simp [*]; done)), H', ⟨by first | omega | exact Nat.le_refl _⟩, ⟨by (with_reducible repeat (first | refine blk_drewN ?_ _ | refine blk_drew ?_ | refine blk_alloc ?_ _)); exact BK282.out⟩, ⟨by repeat (first | (with_reducible first | exact HB.out | apply below_alloc | apply pw_below_drewN | apply below_drew1 | refine below_set ?_ GE282.out) | exact HB.out)⟩⟩
 case rest =>
  clear HC4
  (try clear p2); (try clear c4); (try clear c7); (try clear c9); (try clear hcz11_0); (try clear hcz11_1); (try clear hcz11_2); (try clear hcz11_3); (try clear hcz11_4); (try clear hcz11_5); (try clear hcz11_6); (try clear hfz11_0); (try clear hfz11_1); (try clear hfz11_2); (try clear hfz11_3); (try clear hfz11_4); (try clear hfz11_5); (try clear hfz11_6)
  obtain ⟨kq, x20_3, rfl, HA, HJ3, BK282, HB⟩ := hcut
  cases kq with
  | zero => exact absurd HA.out (by simp [impl_SegmentBytes.j0])
  | succ kj3 =>
   have H := HA.out
   clear HA
   simp only [impl_SegmentBytes.j0] at H
   by_cases c13 : x20_3 = true
   ·subst c13
    have H1 : (some (([] : List Int), 1)) = some (r1, r2) := by rw [if_pos rfl] at H; exact H
    clear H
    have H := H1
    clear H1
    simp only [Option.some.injEq, Prod.mk.injEq] at H
    obtain ⟨rfl, rfl⟩ := H
    go_wp2
    go_ret2
    exact ⟨_, by first | rfl | (simp [errW_none, errW_some] <;> rfl) | (simp [*, errW_none, errW_some] <;> rfl), by first | exact Kd.R_nil _ _ _ _ _ | exact Kd.N_nil _ _ _ _ _ | exact Kd.V_nil _ _ _ _ _ | exact Kd.Q_nil _ _ _ _ _ | exact Kd.S_nil _ _ _ _ _, by repeat (first | (with_reducible first | exact HB.out | apply below_alloc | apply pw_below_drewN | apply below_drew1 | refine below_set ?_ GE282.out) | exact HB.out)⟩
   ·replace c13 := Bool.eq_false_iff.mpr c13
    subst c13
    have H1 : ((impl_segmentBytes.f kj3 a0 a1 a2_0 a2_1 a2_2 a2_3 a2_4 a2_5 a2_6).bind fun t286 => (some (t286, 0))) = some (r1, r2) := by rw [if_neg (show ¬ (false = true) by decide)] at H; exact H
    clear H
    have H := H1
    clear H1
    replace H := Option.bind_eq_some_iff.mp H
    obtain ⟨t286, A140, H⟩ := H
    replace H : (some (t286, 0)) = some (r1, r2) := H
    have A14 := Aside0.mk A140
    clear A140
    simp only [Option.some.injEq, Prod.mk.injEq] at H
    obtain ⟨rfl, rfl⟩ := H
    have hcz15_0 : wc.cell? ⟨gb282, 0, none⟩ = some (.int .i64 a2_0) := (blk_cell BK282.out 0).trans rfl
    have hcz15_1 : wc.cell? ⟨gb282, 1, none⟩ = some (.int .i64 a2_1) := (blk_cell BK282.out 1).trans rfl
    have hcz15_2 : wc.cell? ⟨gb282, 2, none⟩ = some (.int .i64 a2_2) := (blk_cell BK282.out 2).trans rfl
    have hcz15_3 : wc.cell? ⟨gb282, 3, none⟩ = some (.int .i64 a2_3) := (blk_cell BK282.out 3).trans rfl
    have hcz15_4 : wc.cell? ⟨gb282, 4, none⟩ = some (.int .i64 a2_4) := (blk_cell BK282.out 4).trans rfl
    have hcz15_5 : wc.cell? ⟨gb282, 5, none⟩ = some (.int .i64 a2_5) := (blk_cell BK282.out 5).trans rfl
    have hcz15_6 : wc.cell? ⟨gb282, 6, none⟩ = some (.string a2_6) := (blk_cell BK282.out 6).trans rfl
    have hfz15_0 := blk_frozen BK282.out 0
    have hfz15_1 := blk_frozen BK282.out 1
    have hfz15_2 := blk_frozen BK282.out 2
    have hfz15_3 := blk_frozen BK282.out 3
    have hfz15_4 := blk_frozen BK282.out 4
    have hfz15_5 := blk_frozen BK282.out 5
    have hfz15_6 := blk_frozen BK282.out 6
    go_wp2_with (first | ((with_reducible refine gate_callee (f := 87) rfl ?_); refine goesL_ (some 24) rfl rfl Try.func87 (by kernel_rfl) rfl #[.int .i64 a0, .int .i64 a1, .agg #[.int .i64 a2_0, .int .i64 a2_1, .int .i64 a2_2, .int .i64 a2_3, .int .i64 a2_4, .int .i64 a2_5, .string a2_6]] rfl (by (try simp only [List.map_toArray, List.map_cons, List.map_nil]); first | done | rfl | (simp only [List.length_drop, List.length_take]; rfl)) ?_; (with_reducible refine (impl_segmentBytes.calls kj3 a0 a1 a2_0 a2_1 a2_2 a2_3 a2_4 a2_5 a2_6 t286 _ A14.out).mono ?_); rintro e w16 ⟨v287, rfl, ho0, hb⟩; refine ⟨_, rfl, ?_⟩; have n0_ := Aside0.mk (Kd.R_lower ho0 (below_size (by repeat (first | (with_reducible first | exact HB.out | apply below_alloc | apply pw_below_drewN | apply below_drew1 | refine below_set ?_ GE282.out) | exact HB.out)))); have n1_ := Aside0.mk (blk_below (g := gb282) (o := .cells #[.int .i64 a2_0, .int .i64 a2_1, .int .i64 a2_2, .int .i64 a2_3, .int .i64 a2_4, .int .i64 a2_5, .string a2_6] 67 (0, 0)) (by (with_reducible repeat (first | refine blk_drewN ?_ _ | refine blk_drew ?_ | refine blk_alloc ?_ _)); exact BK282.out) hb); have n2_ := Aside0.mk (below_step (by repeat (first | (with_reducible first | exact HB.out | apply below_alloc | apply pw_below_drewN | apply below_drew1 | refine below_set ?_ GE282.out) | exact HB.out)) hb); clear BK282; clear HB; have HO288 := n0_; have BK282 := n1_; have HB := n2_; clear n0_ n1_ n2_; (try clear hb); (try clear hb2); (try clear hk); (try clear hi); (try clear ho0)))
    go_ret2
    exact ⟨_, by first | rfl | (simp [errW_none, errW_some] <;> rfl) | (simp [*, errW_none, errW_some] <;> rfl), by (with_reducible repeat (first | apply Kd.R_alloc | apply Kd.R_drewN | apply Kd.R_drew)); exact HO288.out, by repeat (first | (with_reducible first | exact HB.out | apply below_alloc | apply pw_below_drewN | apply below_drew1 | refine below_set ?_ GE282.out) | exact HB.out)⟩

/-! ### laws_at: function 47 -/
def laws_at.f (l0 : List Int) (a1 : Int) (a2 : Int) : Option (Int) := if a2 ≤ 1 then (some 0) else (if (l0.length : Int) = 0 then (if a2 = 0 then (none) else (some (Int.tmod (wrap64 (a1 * 7)) a2))) else (if 0 ≤ (Int.tmod a1 (l0.length : Int)) then (if (Int.tmod a1 (l0.length : Int)) < (l0.length : Int) then (if 0 ≤ (Int.tmod (wrap64 (a1 + 1)) (l0.length : Int)) then (if (Int.tmod (wrap64 (a1 + 1)) (l0.length : Int)) < (l0.length : Int) then (if a2 = 0 then (none) else (some (Int.tmod (wrap64 ((wrap64 ((wrap64 ((wrap64 (rd l0 (Int.tmod a1 (l0.length : Int)))) * 31)) + (wrap64 (rd l0 (Int.tmod (wrap64 (a1 + 1)) (l0.length : Int)))))) + (wrap64 (Int.tdiv a1 (l0.length : Int))))) a2))) else (none)) else (none)) else (none)) else (none)))
set_option maxHeartbeats 8000000 in
set_option maxRecDepth 100000 in
theorem laws_at.calls (A0 : Option Addr) (c0 : Nat) (l0 : List Int) (a1 : Int) (a2 : Int) (r : Int) (w : World) (hr0 : Kd.C (Kd.int .u8) w A0 l0.length l0) (hc0 : l0.length ≤ c0) (h : laws_at.f l0 a1 a2 = some r) :
  Calls Try.prog 47 #[.slice A0 l0.length c0, .int .i64 a1, .int .i64 a2] w fun e w' => e = .returned (.int .i64 r) ∧ Drawn0 w w' := by
 have HR0 := Aside0.mk hr0
 have HC0 := Aside0.mk hc0
 clear hr0 hc0
 have H : (if a2 ≤ 1 then (some 0) else (if (l0.length : Int) = 0 then (if a2 = 0 then (none) else (some (Int.tmod (wrap64 (a1 * 7)) a2))) else (if 0 ≤ (Int.tmod a1 (l0.length : Int)) then (if (Int.tmod a1 (l0.length : Int)) < (l0.length : Int) then (if 0 ≤ (Int.tmod (wrap64 (a1 + 1)) (l0.length : Int)) then (if (Int.tmod (wrap64 (a1 + 1)) (l0.length : Int)) < (l0.length : Int) then (if a2 = 0 then (none) else (some (Int.tmod (wrap64 ((wrap64 ((wrap64 ((wrap64 (rd l0 (Int.tmod a1 (l0.length : Int)))) * 31)) + (wrap64 (rd l0 (Int.tmod (wrap64 (a1 + 1)) (l0.length : Int)))))) + (wrap64 (Int.tdiv a1 (l0.length : Int))))) a2))) else (none)) else (none)) else (none)) else (none)))) = some r := h
 clear h
 by_cases c4 : a2 ≤ 1
 ·rw [if_pos c4] at H
  have c4b0 : decide (a2 ≤ 1) = true := decide_eq_true c4
  clear c4
  obtain rfl := Option.some.inj H
  go_enter Try.func47, Try.ntmps47
  go_wp2
  repeat (go_quiet (fail); try go_wp2)
  go_ret
  exact ⟨by first | rfl | (simp; done) | (simp [*]; done), by repeat (first | exact Drawn0.refl _ | apply Drawn0.step)⟩
 ·rw [if_neg c4] at H
  have c4b0 : decide (a2 ≤ 1) = false := decide_eq_false c4
  clear c4
  by_cases c5 : (l0.length : Int) = 0
  ·rw [if_pos c5] at H
   have c5b0 : ((l0.length : Int) == 0) = true := beq_iff_eq.mpr c5
   have c5b1 : ((l0.length : Int) != 0) = false := bne_eq_false_iff_eq.mpr c5
   clear c5
   by_cases c6 : a2 = 0
   ·rw [if_pos c6] at H
    exact absurd H (by simp)
   ·rw [if_neg c6] at H
    have c6b0 : (a2 == 0) = false := beq_eq_false_iff_ne.mpr c6
    have c6b1 : (a2 != 0) = true := bne_iff_ne.mpr c6
    obtain rfl := Option.some.inj H
    go_enter Try.func47, Try.ntmps47
    go_wp2
    repeat (go_quiet (fail); try go_wp2)
    go_ret
    exact ⟨by first | rfl | (simp; done) | (simp [*]; done), by repeat (first | exact Drawn0.refl _ | apply Drawn0.step)⟩
  ·rw [if_neg c5] at H
   have c5b0 : ((l0.length : Int) == 0) = false := beq_eq_false_iff_ne.mpr c5
   have c5b1 : ((l0.length : Int) != 0) = true := bne_iff_ne.mpr c5
   have c5b2 : ¬ (l0 = []) := fun h_ => c5 (by rw [h_]; rfl)
   obtain ⟨ji7, hji7⟩ : ∃ j_ : Int, (Int.tmod a1 (l0.length : Int)) = j_ := ⟨_, rfl⟩
   replace H : (if 0 ≤ (ji7) then (if (ji7) < (l0.length : Int) then (if 0 ≤ (Int.tmod (wrap64 (a1 + 1)) (l0.length : Int)) then (if (Int.tmod (wrap64 (a1 + 1)) (l0.length : Int)) < (l0.length : Int) then (if a2 = 0 then (none) else (some (Int.tmod (wrap64 ((wrap64 ((wrap64 ((wrap64 (rd l0 (ji7))) * 31)) + (wrap64 (rd l0 (Int.tmod (wrap64 (a1 + 1)) (l0.length : Int)))))) + (wrap64 (Int.tdiv a1 (l0.length : Int))))) a2))) else (none)) else (none)) else (none)) else (none)) = some r := by first | (rw [hji7] at H; exact H) | (simp only [hji7] at H ⊢; exact H)
   by_cases c8 : 0 ≤ (ji7)
   ·rw [if_pos c8] at H
    have c8b0 : decide (0 ≤ (ji7)) = true := decide_eq_true c8
    clear c8
    by_cases c9 : (ji7) < (l0.length : Int)
    ·rw [if_pos c9] at H
     have c9b0 : decide ((ji7) < (l0.length : Int)) = true := decide_eq_true c9
     clear c9
     obtain ⟨ji10, hji10⟩ : ∃ j_ : Int, (Int.tmod (wrap64 (a1 + 1)) (l0.length : Int)) = j_ := ⟨_, rfl⟩
     replace H : (if 0 ≤ (ji10) then (if (ji10) < (l0.length : Int) then (if a2 = 0 then (none) else (some (Int.tmod (wrap64 ((wrap64 ((wrap64 ((wrap64 (rd l0 (ji7))) * 31)) + (wrap64 (rd l0 (ji10))))) + (wrap64 (Int.tdiv a1 (l0.length : Int))))) a2))) else (none)) else (none)) = some r := by first | (rw [hji10] at H; exact H) | (simp only [hji10] at H ⊢; exact H)
     by_cases c11 : 0 ≤ (ji10)
     ·rw [if_pos c11] at H
      have c11b0 : decide (0 ≤ (ji10)) = true := decide_eq_true c11
      clear c11
      by_cases c12 : (ji10) < (l0.length : Int)
      ·rw [if_pos c12] at H
       have c12b0 : decide ((ji10) < (l0.length : Int)) = true := decide_eq_true c12
       clear c12
       by_cases c13 : a2 = 0
       ·rw [if_pos c13] at H
        exact absurd H (by simp)
       ·rw [if_neg c13] at H
        have c13b0 : (a2 == 0) = false := beq_eq_false_iff_ne.mpr c13
        have c13b1 : (a2 != 0) = true := bne_iff_ne.mpr c13
        obtain rfl := Option.some.inj H
        have p289 : 0 ≤ ((ji7) : Int) := of_decide_eq_true (by first | (with_reducible assumption) | assumption)
        have q289 : (ji7) < (l0.length : Int) := of_decide_eq_true (by first | (with_reducible assumption) | assumption)
        obtain ⟨ad289, e289, hx289_0⟩ := Kd.at_int HR0.out (ji7) p289 q289
        cases e289
        replace p289 := eq_true p289
        replace q289 := eq_true q289
        have p290 : 0 ≤ ((ji10) : Int) := of_decide_eq_true (by first | (with_reducible assumption) | assumption)
        have q290 : (ji10) < (l0.length : Int) := of_decide_eq_true (by first | (with_reducible assumption) | assumption)
        obtain ⟨ad290, e290, hx290_0⟩ := Kd.at_int HR0.out (ji10) p290 q290
        obtain rfl : ad289 = ad290 := (by injection e290)
        replace p290 := eq_true p290
        replace q290 := eq_true q290
        go_enter Try.func47, Try.ntmps47
        go_wp2
        repeat (go_quiet (fail); try go_wp2)
        go_ret
        exact ⟨by first | rfl | (simp; done) | (simp only [← hji7, ← hji10] <;> (first | rfl | simp)) | (simp [*]; done), by repeat (first | exact Drawn0.refl _ | apply Drawn0.step)⟩
      ·rw [if_neg c12] at H
       exact absurd H (by simp)
     ·rw [if_neg c11] at H
      exact absurd H (by simp)
    ·rw [if_neg c9] at H
     exact absurd H (by simp)
   ·rw [if_neg c8] at H
    exact absurd H (by simp)

/-- A state of type 124 at block g of W; what its slices lead to came in by w0. -/
def IsS124 (w0 W : World) (g : Nat) (f0 : List Int) (f1 : Int) (f2 : Int) : Prop := ∃ A0 c0, W.heap[g]? = some (.cells #[.slice A0 f0.length c0, .int .i64 f1, .int .i64 f2] 124 (0, 0)) ∧ w0.heap.size ≤ g ∧ Kd.C (Kd.int .u8) w0 A0 f0.length f0
theorem IsS124.grown {w0 W : World} {g : Nat} {f0 : List Int} {f1 : Int} {f2 : Int} {W1 : World} {row : Option Nat} (h : IsS124 w0 W g f0 f1 f2) (hw : W.grownBy W1 row) (hne : some g ≠ row) : IsS124 w0 W1 g f0 f1 f2 := by
 obtain ⟨A0, c0, hb, hg, hr0⟩ := h
 exact ⟨A0, c0, blk_grown hb hw hne, hg, hr0⟩
theorem IsS124.below {w0 W : World} {g : Nat} {f0 : List Int} {f1 : Int} {f2 : Int} {W1 : World} (h : IsS124 w0 W g f0 f1 f2) (hw : Below W.heap.size W W1) : IsS124 w0 W1 g f0 f1 f2 := h.grown (grown_of_below hw none) (by simp)
theorem IsS124.alloc {w0 W : World} {g : Nat} {f0 : List Int} {f1 : Int} {f2 : Int} (h : IsS124 w0 W g f0 f1 f2) (o : Obj) : IsS124 w0 (W.alloc o) g f0 f1 f2 := h.below (below_alloc (Below.refl _ _) o)
theorem IsS124.drewN {w0 W : World} {g : Nat} {f0 : List Int} {f1 : Int} {f2 : Int} (h : IsS124 w0 W g f0 f1 f2) (m : Nat) : IsS124 w0 (W.drewN m) g f0 f1 f2 := h
theorem IsS124.drew {w0 W : World} {g : Nat} {f0 : List Int} {f1 : Int} {f2 : Int} (h : IsS124 w0 W g f0 f1 f2) : IsS124 w0 W.drew g f0 f1 f2 := h
theorem IsS124.at_ {w0 W : World} {g : Nat} {f0 : List Int} {f1 : Int} {f2 : Int} {w' : World} {m : Nat} (hq : W.drewN m = w') (h : IsS124 w0 W g f0 f1 f2) : IsS124 w0 w' g f0 f1 f2 := by subst hq; exact IsS124.drewN h m
theorem IsS124.apart {w0 W : World} {g : Nat} {f0 : List Int} {f1 : Int} {f2 : Int} {α : Type} {d : Kd α} {e : Nat} {base : Nat} {ok : Nat → Prop} {v : Value} {xs : List α} (h : IsS124 w0 W g f0 f1 f2) (ho : d.R e W base ok v xs) (ht : ∀ q, q ∈ e :: d.E → q ≠ 124) : d.R e W base (fun k => ok k ∧ k ≠ g) v xs := by
 obtain ⟨A0, c0, hb, hg, hr0⟩ := h
 exact Kd.R_types ho hb ht
theorem IsS124.own_ne {w0 W : World} {g : Nat} {f0 : List Int} {f1 : Int} {f2 : Int} {α : Type} {d : Kd α} {e : Nat} {base : Nat} {ok : Nat → Prop} {v : Value} {xs : List α} (h : IsS124 w0 W g f0 f1 f2) (ho : d.R e W base ok v xs) (ht : e ≠ 124) : some g ≠ v.ownBlock := by
 obtain ⟨A0, c0, hb, hg, hr0⟩ := h
 exact Kd.R_ne ho hb ht
theorem IsS124.lt {w0 W : World} {g : Nat} {f0 : List Int} {f1 : Int} {f2 : Int} (h : IsS124 w0 W g f0 f1 f2) : g < W.heap.size := by
 obtain ⟨A0, c0, hb, hg, hr0⟩ := h
 exact blk_lt hb
theorem IsS124.ge {w0 W : World} {g : Nat} {f0 : List Int} {f1 : Int} {f2 : Int} (h : IsS124 w0 W g f0 f1 f2) : w0.heap.size ≤ g := by
 obtain ⟨A0, c0, hb, hg, hr0⟩ := h
 exact hg
theorem IsS124.ne_blk {w0 W : World} {g : Nat} {f0 : List Int} {f1 : Int} {f2 : Int} {a : Nat} {cs : Array Value} {t : TypeId} {fr : Nat × Nat} (h : IsS124 w0 W g f0 f1 f2) (hb2 : W.heap[a]? = some (.cells cs t fr)) (ht : t ≠ 124) : g ≠ a := by
 obtain ⟨A0, c0, hb, hg, hr0⟩ := h
 rintro rfl
 rw [hb] at hb2
 injection hb2 with hb2
 injection hb2 with _ ht2
 exact ht ht2.symm
theorem IsS124.far {w0 W : World} {g : Nat} {f0 : List Int} {f1 : Int} {f2 : Int} {p : Addr} (h : IsS124 w0 W g f0 f1 f2) (hne : g ≠ p.block) (u : Value) : IsS124 w0 (W.setCell p u) g f0 f1 f2 := by
 obtain ⟨A0, c0, hb, hg, hr0⟩ := h
 exact ⟨A0, c0, blk_far hb hne u, hg, hr0⟩
theorem IsS124.set_1 {w0 W : World} {g : Nat} {f0 : List Int} {f1 : Int} {f2 : Int} (h : IsS124 w0 W g f0 f1 f2) (x : Int) : IsS124 w0 (W.setCell ⟨g, 1, none⟩ (.int .i64 x)) g f0 x f2 := by
 obtain ⟨A0, c0, hb, hg, hr0⟩ := h
 exact ⟨A0, c0, by simpa using blk_set hb 1 (.int .i64 x), hg, hr0⟩
theorem IsS124.set_2 {w0 W : World} {g : Nat} {f0 : List Int} {f1 : Int} {f2 : Int} (h : IsS124 w0 W g f0 f1 f2) (x : Int) : IsS124 w0 (W.setCell ⟨g, 2, none⟩ (.int .i64 x)) g f0 f1 x := by
 obtain ⟨A0, c0, hb, hg, hr0⟩ := h
 exact ⟨A0, c0, by simpa using blk_set hb 2 (.int .i64 x), hg, hr0⟩
/-! ### spec_l00Source: function 88 -/
def spec_l00Source.f (l0 : List Int) : Option (List Int × Int × Int) := some (l0, 0, (l0.length : Int) % 1000)
set_option maxHeartbeats 8000000 in
set_option maxRecDepth 100000 in
theorem spec_l00Source.calls (A0 : Option Addr) (c0 : Nat) (l0 : List Int) (r1 : List Int) (r2 : Int) (r3 : Int) (w0 w : World) (hB : Below w0.heap.size w0 w) (hr0 : Kd.C (Kd.int .u8) w0 A0 l0.length l0) (hc0 : l0.length ≤ c0) (h : spec_l00Source.f l0 = some (r1, r2, r3)) :
  Calls Try.prog 88 #[.slice A0 l0.length c0] w fun e w' => ∃ g_ : Nat, e = .returned (.pointer (some ⟨g_, 0, none⟩)) ∧ IsS124 w0 w' g_ r1 r2 r3 ∧ Below w0.heap.size w0 w' ∧ Below w.heap.size w w' := by
 have hu124 := Try.underlying124
 have HR0 := Aside0.mk hr0
 have HC0 := Aside0.mk hc0
 clear hr0 hc0
 have HBW := Aside0.mk (Below.refl w.heap.size w)
 have HW0 := Aside0.mk hB.size
 have HB := Aside0.mk hB
 clear hB
 have H : (some (l0, 0, (l0.length : Int) % 1000)) = some (r1, r2, r3) := h
 clear h
 simp only [Option.some.injEq, Prod.mk.injEq] at H
 obtain ⟨rfl, rfl, rfl⟩ := H
 go_enter Try.func88, Try.ntmps88
 go_wp2_with (first | ((with_reducible refine gate_dst (N := 8) rfl ?_); refine box_event ?hg (N := 8) ?hd (cs := #[.slice A0 l0.length c0, .int .i64 0, .int .i64 ((l0.length : Int) % 1000)]) (t := 124) ?hr ?_; (case hd => rfl); (case hg => rfl); (case hr => first | (go_simp; done) | (go_simp; rfl)); intro gb291 hg w2 hbox hb; have n0_ := Aside0.mk (below_step HBW.out hb); have n1_ := Aside0.mk (below_step (by repeat (first | (with_reducible first | exact HB.out | apply below_alloc | apply pw_below_drewN | apply below_drew1) | exact HB.out)) hb); have n2_ := Aside0.mk (hbox); have n3_ := Aside0.mk ((by rw [hg]; exact (below_size (by repeat (first | (with_reducible first | exact HBW.out | apply below_alloc | apply pw_below_drewN | apply below_drew1) | exact HBW.out))) : w.heap.size ≤ gb291)); have n4_ := Aside0.mk ((Nat.le_trans HW0.out (by rw [hg]; exact (below_size (by repeat (first | (with_reducible first | exact HBW.out | apply below_alloc | apply pw_below_drewN | apply below_drew1) | exact HBW.out))) : w.heap.size ≤ gb291) : w0.heap.size ≤ gb291)); clear HBW; clear HB; have HBW := n0_; have HB := n1_; have BK291 := n2_; have GW291 := n3_; have GE291 := n4_; clear n0_ n1_ n2_ n3_ n4_; clear hb hbox hg))
 go_ret
 exact ⟨_, rfl, (show IsS124 w0 _ gb291 l0 0 ((l0.length : Int) % 1000) from ⟨_, _, by (with_reducible repeat (first | refine blk_drewN ?_ _ | refine blk_drew ?_ | refine blk_alloc ?_ _)); exact BK291.out, GE291.out, HR0.out⟩), by repeat (first | (with_reducible first | exact HB.out | apply below_alloc | apply pw_below_drewN | apply below_drew1 | refine below_set ?_ GE291.out) | exact HB.out), by repeat (first | (with_reducible first | exact HBW.out | apply below_alloc | apply pw_below_drewN | apply below_drew1 | refine below_set ?_ GW291.out) | exact HBW.out)⟩

/-! ### spec_l00Src_byte: function 109 (given: a text of ours) -/

def spec_l00Src_byte.f (s0_0 : List Int) (s0_1 : Int) (s0_2 : Int) : Option (Int × Int × Int) :=
 if (0 ≤ s0_1 ∧ s0_1 ≤ 1000000000) ∧ (0 ≤ s0_2 ∧ s0_2 < 2147483648) ∧ (0 ≤ rd s0_0 s0_1 ∧ rd s0_0 s0_1 ≤ 255) then
  (if s0_1 < (s0_0.length : Int) then some (rd s0_0 s0_1, s0_1 + 1, (s0_2 * 31 + rd s0_0 s0_1 + 7) % 2147483648)
   else if 3000 < s0_1 + 1 then some (0, s0_1 + 1, s0_2)
   else some ((s0_2 * 1103515245 + 12345) % 2147483648 / 65536 % 256, s0_1 + 1, (s0_2 * 1103515245 + 12345) % 2147483648))
 else none
set_option maxHeartbeats 4000000 in
set_option maxRecDepth 100000 in
theorem spec_l00Src_byte.calls_in (g : Nat) (l : List Int) (at_ sd : Int) (w0 w : World) (hI : IsS124 w0 w g l at_ sd) (hB : Below w0.heap.size w0 w) (h0 : 0 ≤ at_) (h1 : at_ < (l.length : Int)) (h2 : at_ ≤ 1000000000) (h3 : 0 ≤ sd) (h4 : sd < 2147483648) (h5 : 0 ≤ rd l at_) (h6 : rd l at_ ≤ 255) :
  Calls Try.prog 109 #[.pointer (some ⟨g, 0, none⟩)] w fun e w' => e = .returned (.int .i64 (rd l at_)) ∧ IsS124 w0 w' g l (at_ + 1) ((sd * 31 + rd l at_ + 7) % 2147483648) ∧ Below w0.heap.size w0 w' ∧ KeepBut w w' g none := by
 obtain ⟨A, c, hb, hg, hr⟩ := hI
 obtain ⟨ad, rfl, hx0⟩ := Kd.at_int hr at_ h0 h1
 have hxb : ad.block ≠ g := by
  have : (ad.add at_.toNat).block < w0.heap.size := World.block_lt_of_cell? w0 _ hx0
  rw [add_block] at this; omega
 have hx : w.cell? (ad.add at_.toNat) = some (.int .u8 (rd l at_)) := hB.cell (p := ad.add at_.toNat) (by have : (ad.add at_.toNat).block < w0.heap.size := World.block_lt_of_cell? w0 _ hx0; exact this) ▸ hx0
 have hc1 : w.cell? ⟨g, 1, none⟩ = some (.int .i64 at_) := (blk_cell hb 1).trans rfl
 have hf1 := blk_frozen hb 1
 have HB := Aside0.mk hb
 have HX := Aside0.mk hx
 have HXB := Aside0.mk hxb
 have HBW := Aside0.mk hB
 have HR := Aside0.mk hr
 have HG := Aside0.mk hg
 clear hb hx hxb hB hr hg hx0
 go_enter Try.func109, Try.ntmps109
 go_wp2
 obtain ⟨w2, hw⟩ : ∃ w2, w2 = w.setCell ⟨g, 1, none⟩ (.int .i64 (at_ + 1)) := ⟨_, rfl⟩
 rw [← hw]
 have hb2 : w2.heap[g]? = some (.cells #[.slice (some ad) l.length c, .int .i64 (at_ + 1), .int .i64 sd] 124 (0, 0)) := (by rw [hw]; exact blk_put HB.out 1 _ rfl)
 have hd0 : w2.cell? ⟨g, 0, none⟩ = some (.slice (some ad) l.length c) := (blk_cell hb2 0).trans rfl
 have hd1 : w2.cell? ⟨g, 1, none⟩ = some (.int .i64 (at_ + 1)) := (blk_cell hb2 1).trans rfl
 have hd2 : w2.cell? ⟨g, 2, none⟩ = some (.int .i64 sd) := (blk_cell hb2 2).trans rfl
 have hx2 : w2.cell? (ad.add at_.toNat) = some (.int .u8 (rd l at_)) := (by rw [hw, cell_far (by rw [add_block]; exact HXB.out)]; exact HX.out)
 have HW := Aside0.mk hw
 have HB2 := Aside0.mk hb2
 clear hw hb2
 have hle : decide (at_ + 1 ≤ (l.length : Int)) = true := decide_eq_true (by omega)
 have w1 : IntKind.i64.wrap (at_ + 1) = at_ + 1 := IntWalk.i64_in _ (by omega)
 go_quiet (fail)
 clear w1 hle
 have hm : at_ + 1 - 1 = at_ := by omega
 have ws : IntKind.i64.wrap (sd * 31) = sd * 31 := IntWalk.i64_in _ (by omega)
 have wm : IntKind.i64.wrap at_ = at_ := IntWalk.i64_in _ (by omega)
 have hp0 : (0 ≤ at_) = True := eq_true h0
 have hp1 : (at_ < (l.length : Int)) = True := eq_true h1
 have wa : IntKind.i64.wrap (sd * 31 + rd l at_) = sd * 31 + rd l at_ := IntWalk.i64_in _ (by omega)
 have wb : IntKind.i64.wrap (sd * 31 + rd l at_ + 7) = sd * 31 + rd l at_ + 7 := IntWalk.i64_in _ (by omega)
 have wc : IntKind.i64.wrap (rd l at_) = rd l at_ := IntWalk.i64_in _ (by omega)
 have ht : Int.tmod (sd * 31 + rd l at_ + 7) 2147483648 = (sd * 31 + rd l at_ + 7) % 2147483648 := Int.tmod_eq_emod_of_nonneg (by omega)
 have hn0 : 0 ≤ (sd * 31 + rd l at_ + 7) % 2147483648 := by omega
 have hlt : decide (at_ < (l.length : Int)) = true := decide_eq_true h1
 have hge : decide (0 ≤ at_) = true := decide_eq_true h0
 clear HX hc1 hf1
 have e0 : (w2.drewN nq).cell? ⟨g, 0, none⟩ = some (.slice (some ad) l.length c) := hd0
 have e1 : (w2.drewN nq).cell? ⟨g, 1, none⟩ = some (.int .i64 (at_ + 1)) := hd1
 have e2 : (w2.drewN nq).cell? ⟨g, 2, none⟩ = some (.int .i64 sd) := hd2
 have ex : (w2.drewN nq).cell? (ad.add at_.toNat) = some (.int .u8 (rd l at_)) := hx2
 have eb : (w2.drewN nq).heap[g]? = some (.cells #[.slice (some ad) l.length c, .int .i64 (at_ + 1), .int .i64 sd] 124 (0, 0)) := HB2.out
 generalize hq : w2.drewN nq = w3 at e0 e1 e2 ex eb ⊢
 have HQ := Aside0.mk hq
 have EB := Aside0.mk eb
 clear hq hd0 hd1 hd2 hx2 HB2 eb
 go_wp2
 go_still_tail 23, (by kernel_rfl)
 change wpList _ _ _ _ _ w3.drew
 have e0 : w3.drew.cell? ⟨g, 0, none⟩ = some (.slice (some ad) l.length c) := e0
 have e1 : w3.drew.cell? ⟨g, 1, none⟩ = some (.int .i64 (at_ + 1)) := e1
 have e2 : w3.drew.cell? ⟨g, 2, none⟩ = some (.int .i64 sd) := e2
 have eb : w3.drew.heap[g]? = some (.cells #[.slice (some ad) l.length c, .int .i64 (at_ + 1), .int .i64 sd] 124 (0, 0)) := EB.out
 generalize hq : w3.drew = w4 at e0 e1 e2 eb ⊢
 have ef2 := blk_frozen eb 2
 have HQ2 := Aside0.mk hq
 have EB2 := Aside0.mk eb
 clear hq eb
 have hx4 : w4.cell? (ad.add at_.toNat) = some (.int .u8 (rd l at_)) := by rw [← HQ2.out]; exact ex
 clear ex
 go_wp2
 obtain ⟨w5, hw⟩ : ∃ w5, w5 = w4.setCell ⟨g, 2, none⟩ (.int .i64 ((sd * 31 + rd l at_ + 7) % 2147483648)) := ⟨_, rfl⟩
 rw [← hw]
 have hb5 : w5.heap[g]? = some (.cells #[.slice (some ad) l.length c, .int .i64 (at_ + 1), .int .i64 ((sd * 31 + rd l at_ + 7) % 2147483648)] 124 (0, 0)) := (by rw [hw]; exact blk_put EB2.out 2 _ rfl)
 have hd0 : w5.cell? ⟨g, 0, none⟩ = some (.slice (some ad) l.length c) := (blk_cell hb5 0).trans rfl
 have hd1 : w5.cell? ⟨g, 1, none⟩ = some (.int .i64 (at_ + 1)) := (blk_cell hb5 1).trans rfl
 have hx5 : w5.cell? (ad.add at_.toNat) = some (.int .u8 (rd l at_)) := (by rw [hw, cell_far (by rw [add_block]; exact HXB.out)]; exact hx4)
 have HW5 := Aside0.mk hw
 have HB5 := Aside0.mk hb5
 clear hw hb5 e0 e1 e2 ef2 hx4
 go_quiet (fail)
 go_wp2
 go_ret
 have b2 : Below w0.heap.size w0 w2 := by rw [HW.out]; exact below_set HBW.out HG.out
 have b4 : Below w0.heap.size w0 w4 := by rw [← HQ2.out, ← HQ.out]; exact below_drew (pw_below_drewN b2 _)
 have b5 : Below w0.heap.size w0 w5 := by rw [HW5.out]; exact below_set b4 HG.out
 have k2 : KeepBut w w2 g none := by rw [HW.out]; exact (KeepBut.refl w g none).set_ 1 _
 have k4 : KeepBut w w4 g none := by rw [← HQ2.out, ← HQ.out]; exact keep_drew (keep_drewN k2 _)
 have k5 : KeepBut w w5 g none := by rw [HW5.out]; exact k4.set_ 2 _
 exact ⟨rfl, ⟨_, _, HB5.out, HG.out, HR.out⟩, pw_below_drewN b5 _, keep_drewN k5 _⟩
set_option maxHeartbeats 4000000 in
set_option maxRecDepth 100000 in
theorem spec_l00Src_byte.calls_far (g : Nat) (l : List Int) (at_ sd : Int) (w0 w : World) (hI : IsS124 w0 w g l at_ sd) (hB : Below w0.heap.size w0 w) (h0 : 0 ≤ at_) (h1 : ¬ at_ < (l.length : Int)) (h2 : at_ ≤ 1000000000) (h7 : 3000 < at_ + 1) :
  Calls Try.prog 109 #[.pointer (some ⟨g, 0, none⟩)] w fun e w' => e = .returned (.int .i64 0) ∧ IsS124 w0 w' g l (at_ + 1) sd ∧ Below w0.heap.size w0 w' ∧ KeepBut w w' g none := by
 obtain ⟨A, c, hb, hg, hr⟩ := hI
 have hc1 : w.cell? ⟨g, 1, none⟩ = some (.int .i64 at_) := (blk_cell hb 1).trans rfl
 have hf1 := blk_frozen hb 1
 have HB := Aside0.mk hb
 have HBW := Aside0.mk hB
 have HR := Aside0.mk hr
 have HG := Aside0.mk hg
 clear hb hB hr hg
 go_enter Try.func109, Try.ntmps109
 go_wp2
 obtain ⟨w2, hw⟩ : ∃ w2, w2 = w.setCell ⟨g, 1, none⟩ (.int .i64 (at_ + 1)) := ⟨_, rfl⟩
 rw [← hw]
 have hb2 : w2.heap[g]? = some (.cells #[.slice A l.length c, .int .i64 (at_ + 1), .int .i64 sd] 124 (0, 0)) := (by rw [hw]; exact blk_put HB.out 1 _ rfl)
 have hd0 : w2.cell? ⟨g, 0, none⟩ = some (.slice A l.length c) := (blk_cell hb2 0).trans rfl
 have hd1 : w2.cell? ⟨g, 1, none⟩ = some (.int .i64 (at_ + 1)) := (blk_cell hb2 1).trans rfl
 have HW := Aside0.mk hw
 have HB2 := Aside0.mk hb2
 clear hw hb2
 have hle : decide (at_ + 1 ≤ (l.length : Int)) = false := decide_eq_false (by omega)
 have hfr : decide (3000 < at_ + 1) = true := decide_eq_true h7
 have w1 : IntKind.i64.wrap (at_ + 1) = at_ + 1 := IntWalk.i64_in _ (by omega)
 go_quiet (fail)
 have e1 : (w2.drewN nq).cell? ⟨g, 1, none⟩ = some (.int .i64 (at_ + 1)) := hd1
 go_wp2
 go_ret
 have b2 : Below w0.heap.size w0 w2 := by rw [HW.out]; exact below_set HBW.out HG.out
 have k2 : KeepBut w w2 g none := by rw [HW.out]; exact (KeepBut.refl w g none).set_ 1 _
 exact ⟨rfl, ⟨_, _, HB2.out, HG.out, HR.out⟩, pw_below_drewN b2 _, keep_drewN k2 _⟩
set_option maxHeartbeats 4000000 in
set_option maxRecDepth 100000 in
theorem spec_l00Src_byte.calls_out (g : Nat) (l : List Int) (at_ sd : Int) (w0 w : World) (hI : IsS124 w0 w g l at_ sd) (hB : Below w0.heap.size w0 w) (h0 : 0 ≤ at_) (h1 : ¬ at_ < (l.length : Int)) (h2 : at_ ≤ 1000000000) (h7 : ¬ 3000 < at_ + 1) (h3 : 0 ≤ sd) (h4 : sd < 2147483648) :
  Calls Try.prog 109 #[.pointer (some ⟨g, 0, none⟩)] w fun e w' => e = .returned (.int .i64 ((sd * 1103515245 + 12345) % 2147483648 / 65536 % 256)) ∧ IsS124 w0 w' g l (at_ + 1) ((sd * 1103515245 + 12345) % 2147483648) ∧ Below w0.heap.size w0 w' ∧ KeepBut w w' g none := by
 obtain ⟨A, c, hb, hg, hr⟩ := hI
 have hc1 : w.cell? ⟨g, 1, none⟩ = some (.int .i64 at_) := (blk_cell hb 1).trans rfl
 have hf1 := blk_frozen hb 1
 have HB := Aside0.mk hb
 have HBW := Aside0.mk hB
 have HR := Aside0.mk hr
 have HG := Aside0.mk hg
 clear hb hB hr hg
 go_enter Try.func109, Try.ntmps109
 go_wp2
 obtain ⟨w2, hw⟩ : ∃ w2, w2 = w.setCell ⟨g, 1, none⟩ (.int .i64 (at_ + 1)) := ⟨_, rfl⟩
 rw [← hw]
 have hb2 : w2.heap[g]? = some (.cells #[.slice A l.length c, .int .i64 (at_ + 1), .int .i64 sd] 124 (0, 0)) := (by rw [hw]; exact blk_put HB.out 1 _ rfl)
 have hd0 : w2.cell? ⟨g, 0, none⟩ = some (.slice A l.length c) := (blk_cell hb2 0).trans rfl
 have hd1 : w2.cell? ⟨g, 1, none⟩ = some (.int .i64 (at_ + 1)) := (blk_cell hb2 1).trans rfl
 have HW := Aside0.mk hw
 have HB2 := Aside0.mk hb2
 clear hw hb2
 have hle : decide (at_ + 1 ≤ (l.length : Int)) = false := decide_eq_false (by omega)
 have hfr : decide (3000 < at_ + 1) = false := decide_eq_false (by omega)
 have w1 : IntKind.i64.wrap (at_ + 1) = at_ + 1 := IntWalk.i64_in _ (by omega)
 go_quiet (fail)
 clear w1 hle
 have e1 : (w2.drewN nq).cell? ⟨g, 1, none⟩ = some (.int .i64 (at_ + 1)) := hd1
 have eb : (w2.drewN nq).heap[g]? = some (.cells #[.slice A l.length c, .int .i64 (at_ + 1), .int .i64 sd] 124 (0, 0)) := HB2.out
 generalize hq : w2.drewN nq = w3 at e1 eb ⊢
 have e2 : w3.cell? ⟨g, 2, none⟩ = some (.int .i64 sd) := (blk_cell eb 2).trans rfl
 have ef2 := blk_frozen eb 2
 have HQ := Aside0.mk hq
 have EB := Aside0.mk eb
 clear hq hd0 hd1 HB2 eb
 have hn0 : 0 ≤ (sd * 1103515245 + 12345) % 2147483648 := by omega
 go_wp2
 go_ret
 have b2 : Below w0.heap.size w0 w2 := by rw [HW.out]; exact below_set HBW.out HG.out
 have b3 : Below w0.heap.size w0 w3 := by rw [← HQ.out]; exact pw_below_drewN b2 _
 have k2 : KeepBut w w2 g none := by rw [HW.out]; exact (KeepBut.refl w g none).set_ 1 _
 have k3 : KeepBut w w3 g none := by rw [← HQ.out]; exact keep_drewN k2 _
 exact ⟨rfl, ⟨_, _, blk_put EB.out 2 _ rfl, HG.out, HR.out⟩, below_set b3 HG.out, k3.set_ 2 _⟩
theorem spec_l00Src_byte.calls (g : Nat) (s0_0 : List Int) (s0_1 : Int) (s0_2 : Int) (r0 : Int) (n1 : Int) (n2 : Int) (w0 w : World) (hI : IsS124 w0 w g s0_0 s0_1 s0_2) (hB : Below w0.heap.size w0 w) (h : spec_l00Src_byte.f s0_0 s0_1 s0_2 = some (r0, n1, n2)) :
  Calls Try.prog 109 #[.pointer (some ⟨g, 0, none⟩)] w fun e w' => e = .returned (.int .i64 r0) ∧ IsS124 w0 w' g s0_0 n1 n2 ∧ Below w0.heap.size w0 w' ∧ KeepBut w w' g none := by
 unfold spec_l00Src_byte.f at h
 split at h
 ·rename_i hc
  obtain ⟨⟨h0, h2⟩, ⟨h3, h4⟩, h5, h6⟩ := hc
  split at h
  ·rename_i h1
   simp only [Option.some.injEq, Prod.mk.injEq] at h
   obtain ⟨rfl, rfl, rfl⟩ := h
   exact spec_l00Src_byte.calls_in g _ _ _ w0 w hI hB h0 h1 h2 h3 h4 h5 h6
  ·rename_i h1
   split at h
   ·rename_i h7
    simp only [Option.some.injEq, Prod.mk.injEq] at h
    obtain ⟨rfl, rfl, rfl⟩ := h
    exact spec_l00Src_byte.calls_far g _ _ _ w0 w hI hB h0 h1 h2 h7
   ·rename_i h7
    simp only [Option.some.injEq, Prod.mk.injEq] at h
    obtain ⟨rfl, rfl, rfl⟩ := h
    exact spec_l00Src_byte.calls_out g _ _ _ w0 w hI hB h0 h1 h2 h7 h3 h4
 ·cases h

/-! ### spec_l00Src_next: function 105 -/
def spec_l00Src_next.f (s0_0 : List Int) (s0_1 : Int) (s0_2 : Int) (a1 : Int) : Option (Int × Int × Int) := if a1 ≤ 1 then (some (0, s0_1, s0_2)) else (if a1 ≤ 256 then ((spec_l00Src_byte.f s0_0 s0_1 s0_2).bind fun bt292 => (if a1 = 0 then (none) else (some (Int.tmod bt292.1 a1, bt292.2.1, bt292.2.2)))) else ((spec_l00Src_byte.f s0_0 s0_1 s0_2).bind fun bt295 => ((spec_l00Src_byte.f s0_0 bt295.2.1 bt295.2.2).bind fun bt298 => ((spec_l00Src_byte.f s0_0 bt298.2.1 bt298.2.2).bind fun bt301 => (if a1 = 0 then (none) else (some (Int.tmod (wrap64 ((wrap64 ((wrap64 (bt295.1 * 65536)) + (wrap64 (bt298.1 * 256)))) + bt301.1)) a1, bt301.2.1, bt301.2.2)))))))
set_option maxHeartbeats 8000000 in
set_option maxRecDepth 100000 in
theorem spec_l00Src_next.calls (g : Nat) (s0_0 : List Int) (s0_1 : Int) (s0_2 : Int) (a1 : Int) (r1 : Int) (r2 : Int) (r3 : Int) (w0 w : World) (hI : IsS124 w0 w g s0_0 s0_1 s0_2) (hB : Below w0.heap.size w0 w) (h : spec_l00Src_next.f s0_0 s0_1 s0_2 a1 = some (r1, r2, r3)) :
  Calls Try.prog 105 #[.pointer (some ⟨g, 0, none⟩), .int .i64 a1] w fun e w' => e = .returned (.int .i64 r1) ∧ IsS124 w0 w' g s0_0 r2 r3 ∧ Below w0.heap.size w0 w' ∧ KeepBut w w' g none := by
 have HI0 := Aside0.mk hI
 have HK := Aside0.mk (KeepBut.refl w g none)
 have HL := Aside0.mk hB.size
 clear hI
 have HW0 := Aside0.mk hB.size
 have HB := Aside0.mk hB
 clear hB
 have H : (if a1 ≤ 1 then (some (0, s0_1, s0_2)) else (if a1 ≤ 256 then ((spec_l00Src_byte.f s0_0 s0_1 s0_2).bind fun bt292 => (if a1 = 0 then (none) else (some (Int.tmod bt292.1 a1, bt292.2.1, bt292.2.2)))) else ((spec_l00Src_byte.f s0_0 s0_1 s0_2).bind fun bt295 => ((spec_l00Src_byte.f s0_0 bt295.2.1 bt295.2.2).bind fun bt298 => ((spec_l00Src_byte.f s0_0 bt298.2.1 bt298.2.2).bind fun bt301 => (if a1 = 0 then (none) else (some (Int.tmod (wrap64 ((wrap64 ((wrap64 (bt295.1 * 65536)) + (wrap64 (bt298.1 * 256)))) + bt301.1)) a1, bt301.2.1, bt301.2.2)))))))) = some (r1, r2, r3) := h
 clear h
 by_cases c3 : a1 ≤ 1
 ·rw [if_pos c3] at H
  have c3b0 : decide (a1 ≤ 1) = true := decide_eq_true c3
  clear c3
  simp only [Option.some.injEq, Prod.mk.injEq] at H
  obtain ⟨rfl, rfl, rfl⟩ := H
  go_enter Try.func105, Try.ntmps105
  go_wp2
  go_ret
  exact ⟨by first | rfl | (simp [errW_none, errW_some] <;> rfl) | (simp [*, errW_none, errW_some] <;> rfl), by repeat (first | (with_reducible first | exact HI0.out | apply IsS124.alloc | apply IsS124.drewN | apply IsS124.drew | apply IsS124.set_1 | apply IsS124.set_2) | exact HI0.out), by repeat (first | (with_reducible first | exact HB.out | apply below_alloc | apply pw_below_drewN | apply below_drew1 | refine below_set ?_ (IsS124.ge HI0.out)) | exact HB.out), by repeat (first | (with_reducible first | exact HK.out | apply KeepBut.set_ | apply keep_drewN | apply keep_drew | apply keep_alloc) | exact HK.out)⟩
 ·rw [if_neg c3] at H
  have c3b0 : decide (a1 ≤ 1) = false := decide_eq_false c3
  clear c3
  by_cases c4 : a1 ≤ 256
  ·rw [if_pos c4] at H
   have c4b0 : decide (a1 ≤ 256) = true := decide_eq_true c4
   clear c4
   replace H := Option.bind_eq_some_iff.mp H
   obtain ⟨⟨t292, t293, t294⟩, A50, H⟩ := H
   replace H : (if a1 = 0 then (none) else (some (Int.tmod t292 a1, t293, t294))) = some (r1, r2, r3) := H
   have A5 := Aside0.mk A50
   clear A50
   by_cases c6 : a1 = 0
   ·rw [if_pos c6] at H
    exact absurd H (by simp)
   ·rw [if_neg c6] at H
    have c6b0 : (a1 == 0) = false := beq_eq_false_iff_ne.mpr c6
    have c6b1 : (a1 != 0) = true := bne_iff_ne.mpr c6
    simp only [Option.some.injEq, Prod.mk.injEq] at H
    obtain ⟨rfl, rfl, rfl⟩ := H
    go_enter Try.func105, Try.ntmps105
    go_wp2_with (first | ((with_reducible refine gate_callee (f := 109) rfl ?_); refine goesL_ (some 13) rfl rfl Try.func109 (by kernel_rfl) rfl #[.pointer (some ⟨g, 0, none⟩)] rfl (by (try simp only [List.map_toArray, List.map_cons, List.map_nil]); first | done | rfl | (simp only [List.length_drop, List.length_take]; rfl)) ?_; (with_reducible refine (spec_l00Src_byte.calls g s0_0 s0_1 s0_2 t292 t293 t294 w0 _ ?side1 ?side2 A5.out).mono ?_); (case side1 => repeat (first | (with_reducible first | exact HI0.out | apply IsS124.alloc | apply IsS124.drewN | apply IsS124.drew | apply IsS124.set_1 | apply IsS124.set_2) | exact HI0.out)); (case side2 => repeat (first | (with_reducible first | exact HB.out | apply below_alloc | apply pw_below_drewN | apply below_drew1 | refine below_set ?_ (IsS124.ge HI0.out)) | exact HB.out)); rintro e w7 ⟨rfl, hi, hb, hk⟩; refine ⟨_, rfl, ?_⟩; have n0_ := Aside0.mk (KeepBut.trans (by repeat (first | (with_reducible first | exact HK.out | apply KeepBut.set_ | apply keep_drewN | apply keep_drew | apply keep_alloc) | exact HK.out)) hk (.inl rfl)); have n1_ := Aside0.mk (hb); have n2_ := Aside0.mk (hi); clear HK; clear HB; clear HI0; have HK := n0_; have HB := n1_; have HI0 := n2_; clear n0_ n1_ n2_; (try clear hb); (try clear hb2); (try clear hk); (try clear hi)))
    go_ret
    exact ⟨by first | rfl | (simp [errW_none, errW_some] <;> rfl) | (simp [*, errW_none, errW_some] <;> rfl), by repeat (first | (with_reducible first | exact HI0.out | apply IsS124.alloc | apply IsS124.drewN | apply IsS124.drew | apply IsS124.set_1 | apply IsS124.set_2) | exact HI0.out), by repeat (first | (with_reducible first | exact HB.out | apply below_alloc | apply pw_below_drewN | apply below_drew1 | refine below_set ?_ (IsS124.ge HI0.out)) | exact HB.out), by repeat (first | (with_reducible first | exact HK.out | apply KeepBut.set_ | apply keep_drewN | apply keep_drew | apply keep_alloc) | exact HK.out)⟩
  ·rw [if_neg c4] at H
   have c4b0 : decide (a1 ≤ 256) = false := decide_eq_false c4
   clear c4
   replace H := Option.bind_eq_some_iff.mp H
   obtain ⟨⟨t295, t296, t297⟩, A80, H⟩ := H
   replace H : ((spec_l00Src_byte.f s0_0 t296 t297).bind fun bt298 => ((spec_l00Src_byte.f s0_0 bt298.2.1 bt298.2.2).bind fun bt301 => (if a1 = 0 then (none) else (some (Int.tmod (wrap64 ((wrap64 ((wrap64 (t295 * 65536)) + (wrap64 (bt298.1 * 256)))) + bt301.1)) a1, bt301.2.1, bt301.2.2))))) = some (r1, r2, r3) := H
   have A8 := Aside0.mk A80
   clear A80
   replace H := Option.bind_eq_some_iff.mp H
   obtain ⟨⟨t298, t299, t300⟩, A90, H⟩ := H
   replace H : ((spec_l00Src_byte.f s0_0 t299 t300).bind fun bt301 => (if a1 = 0 then (none) else (some (Int.tmod (wrap64 ((wrap64 ((wrap64 (t295 * 65536)) + (wrap64 (t298 * 256)))) + bt301.1)) a1, bt301.2.1, bt301.2.2)))) = some (r1, r2, r3) := H
   have A9 := Aside0.mk A90
   clear A90
   replace H := Option.bind_eq_some_iff.mp H
   obtain ⟨⟨t301, t302, t303⟩, A100, H⟩ := H
   replace H : (if a1 = 0 then (none) else (some (Int.tmod (wrap64 ((wrap64 ((wrap64 (t295 * 65536)) + (wrap64 (t298 * 256)))) + t301)) a1, t302, t303))) = some (r1, r2, r3) := H
   have A10 := Aside0.mk A100
   clear A100
   by_cases c11 : a1 = 0
   ·rw [if_pos c11] at H
    exact absurd H (by simp)
   ·rw [if_neg c11] at H
    have c11b0 : (a1 == 0) = false := beq_eq_false_iff_ne.mpr c11
    have c11b1 : (a1 != 0) = true := bne_iff_ne.mpr c11
    simp only [Option.some.injEq, Prod.mk.injEq] at H
    obtain ⟨rfl, rfl, rfl⟩ := H
    go_enter Try.func105, Try.ntmps105
    go_wp2_with (first | ((with_reducible refine gate_callee (f := 109) rfl ?_); refine goesL_ (some 17) rfl rfl Try.func109 (by kernel_rfl) rfl #[.pointer (some ⟨g, 0, none⟩)] rfl (by (try simp only [List.map_toArray, List.map_cons, List.map_nil]); first | done | rfl | (simp only [List.length_drop, List.length_take]; rfl)) ?_; (with_reducible refine (spec_l00Src_byte.calls g s0_0 s0_1 s0_2 t295 t296 t297 w0 _ ?side1 ?side2 A8.out).mono ?_); (case side1 => repeat (first | (with_reducible first | exact HI0.out | apply IsS124.alloc | apply IsS124.drewN | apply IsS124.drew | apply IsS124.set_1 | apply IsS124.set_2) | exact HI0.out)); (case side2 => repeat (first | (with_reducible first | exact HB.out | apply below_alloc | apply pw_below_drewN | apply below_drew1 | refine below_set ?_ (IsS124.ge HI0.out)) | exact HB.out)); rintro e w12 ⟨rfl, hi, hb, hk⟩; refine ⟨_, rfl, ?_⟩; have n0_ := Aside0.mk (KeepBut.trans (by repeat (first | (with_reducible first | exact HK.out | apply KeepBut.set_ | apply keep_drewN | apply keep_drew | apply keep_alloc) | exact HK.out)) hk (.inl rfl)); have n1_ := Aside0.mk (hb); have n2_ := Aside0.mk (hi); clear HK; clear HB; clear HI0; have HK := n0_; have HB := n1_; have HI0 := n2_; clear n0_ n1_ n2_; (try clear hb); (try clear hb2); (try clear hk); (try clear hi)) | ((with_reducible refine gate_callee (f := 109) rfl ?_); refine goesL_ (some 19) rfl rfl Try.func109 (by kernel_rfl) rfl #[.pointer (some ⟨g, 0, none⟩)] rfl (by (try simp only [List.map_toArray, List.map_cons, List.map_nil]); first | done | rfl | (simp only [List.length_drop, List.length_take]; rfl)) ?_; (with_reducible refine (spec_l00Src_byte.calls g s0_0 t296 t297 t298 t299 t300 w0 _ ?side1 ?side2 A9.out).mono ?_); (case side1 => repeat (first | (with_reducible first | exact HI0.out | apply IsS124.alloc | apply IsS124.drewN | apply IsS124.drew | apply IsS124.set_1 | apply IsS124.set_2) | exact HI0.out)); (case side2 => repeat (first | (with_reducible first | exact HB.out | apply below_alloc | apply pw_below_drewN | apply below_drew1 | refine below_set ?_ (IsS124.ge HI0.out)) | exact HB.out)); rintro e w13 ⟨rfl, hi, hb, hk⟩; refine ⟨_, rfl, ?_⟩; have n0_ := Aside0.mk (KeepBut.trans (by repeat (first | (with_reducible first | exact HK.out | apply KeepBut.set_ | apply keep_drewN | apply keep_drew | apply keep_alloc) | exact HK.out)) hk (.inl rfl)); have n1_ := Aside0.mk (hb); have n2_ := Aside0.mk (hi); clear HK; clear HB; clear HI0; have HK := n0_; have HB := n1_; have HI0 := n2_; clear n0_ n1_ n2_; (try clear hb); (try clear hb2); (try clear hk); (try clear hi)) | ((with_reducible refine gate_callee (f := 109) rfl ?_); refine goesL_ (some 21) rfl rfl Try.func109 (by kernel_rfl) rfl #[.pointer (some ⟨g, 0, none⟩)] rfl (by (try simp only [List.map_toArray, List.map_cons, List.map_nil]); first | done | rfl | (simp only [List.length_drop, List.length_take]; rfl)) ?_; (with_reducible refine (spec_l00Src_byte.calls g s0_0 t299 t300 t301 t302 t303 w0 _ ?side1 ?side2 A10.out).mono ?_); (case side1 => repeat (first | (with_reducible first | exact HI0.out | apply IsS124.alloc | apply IsS124.drewN | apply IsS124.drew | apply IsS124.set_1 | apply IsS124.set_2) | exact HI0.out)); (case side2 => repeat (first | (with_reducible first | exact HB.out | apply below_alloc | apply pw_below_drewN | apply below_drew1 | refine below_set ?_ (IsS124.ge HI0.out)) | exact HB.out)); rintro e w14 ⟨rfl, hi, hb, hk⟩; refine ⟨_, rfl, ?_⟩; have n0_ := Aside0.mk (KeepBut.trans (by repeat (first | (with_reducible first | exact HK.out | apply KeepBut.set_ | apply keep_drewN | apply keep_drew | apply keep_alloc) | exact HK.out)) hk (.inl rfl)); have n1_ := Aside0.mk (hb); have n2_ := Aside0.mk (hi); clear HK; clear HB; clear HI0; have HK := n0_; have HB := n1_; have HI0 := n2_; clear n0_ n1_ n2_; (try clear hb); (try clear hb2); (try clear hk); (try clear hi)))
    go_ret
    exact ⟨by first | rfl | (simp [errW_none, errW_some] <;> rfl) | (simp [*, errW_none, errW_some] <;> rfl), by repeat (first | (with_reducible first | exact HI0.out | apply IsS124.alloc | apply IsS124.drewN | apply IsS124.drew | apply IsS124.set_1 | apply IsS124.set_2) | exact HI0.out), by repeat (first | (with_reducible first | exact HB.out | apply below_alloc | apply pw_below_drewN | apply below_drew1 | refine below_set ?_ (IsS124.ge HI0.out)) | exact HB.out), by repeat (first | (with_reducible first | exact HK.out | apply KeepBut.set_ | apply keep_drewN | apply keep_drew | apply keep_alloc) | exact HK.out)⟩

/-! ### spec_l00Src_pick: function 106 -/
def spec_l00Src_pick.f (s0_0 : List Int) (s0_1 : Int) (s0_2 : Int) (l1 : List ByteArray) : Option (ByteArray × Int × Int) := if (l1.length : Int) = 0 then (some ((⟨#[]⟩ : ByteArray), s0_1, s0_2)) else ((spec_l00Src_next.f s0_0 s0_1 s0_2 (l1.length : Int)).bind fun bt304 => (if 0 ≤ bt304.1 then (if bt304.1 < (l1.length : Int) then (some (rdOf ByteArray.empty l1 bt304.1, bt304.2.1, bt304.2.2)) else (none)) else (none)))
set_option maxHeartbeats 8000000 in
set_option maxRecDepth 100000 in
theorem spec_l00Src_pick.calls (g : Nat) (s0_0 : List Int) (s0_1 : Int) (s0_2 : Int) (A1 : Option Addr) (c1 : Nat) (l1 : List ByteArray) (r1 : ByteArray) (r2 : Int) (r3 : Int) (w0 w : World) (hI : IsS124 w0 w g s0_0 s0_1 s0_2) (hB : Below w0.heap.size w0 w) (hr1 : Kd.C Kd.string w A1 l1.length l1) (hc1 : l1.length ≤ c1) (hf1 : ∀ ad, A1 = some ad → 0 < l1.length → ad.block ≠ g) (h : spec_l00Src_pick.f s0_0 s0_1 s0_2 l1 = some (r1, r2, r3)) :
  Calls Try.prog 106 #[.pointer (some ⟨g, 0, none⟩), .slice A1 l1.length c1] w fun e w' => e = .returned (.string r1) ∧ IsS124 w0 w' g s0_0 r2 r3 ∧ Below w0.heap.size w0 w' ∧ KeepBut w w' g none := by
 have HR1 := Aside0.mk hr1
 have HC1 := Aside0.mk hc1
 clear hr1 hc1
 have HI0 := Aside0.mk hI
 have HK := Aside0.mk (KeepBut.refl w g none)
 have HL := Aside0.mk hB.size
 clear hI
 have HW0 := Aside0.mk hB.size
 have HB := Aside0.mk hB
 clear hB
 have H : (if (l1.length : Int) = 0 then (some ((⟨#[]⟩ : ByteArray), s0_1, s0_2)) else ((spec_l00Src_next.f s0_0 s0_1 s0_2 (l1.length : Int)).bind fun bt304 => (if 0 ≤ bt304.1 then (if bt304.1 < (l1.length : Int) then (some (rdOf ByteArray.empty l1 bt304.1, bt304.2.1, bt304.2.2)) else (none)) else (none)))) = some (r1, r2, r3) := h
 clear h
 by_cases c3 : (l1.length : Int) = 0
 ·rw [if_pos c3] at H
  have c3b0 : ((l1.length : Int) == 0) = true := beq_iff_eq.mpr c3
  have c3b1 : ((l1.length : Int) != 0) = false := bne_eq_false_iff_eq.mpr c3
  clear c3
  simp only [Option.some.injEq, Prod.mk.injEq] at H
  obtain ⟨rfl, rfl, rfl⟩ := H
  go_enter Try.func106, Try.ntmps106
  go_wp2
  go_ret
  exact ⟨by first | rfl | (simp [errW_none, errW_some] <;> rfl) | (simp [*, errW_none, errW_some] <;> rfl), by repeat (first | (with_reducible first | exact HI0.out | apply IsS124.alloc | apply IsS124.drewN | apply IsS124.drew | apply IsS124.set_1 | apply IsS124.set_2) | exact HI0.out), by repeat (first | (with_reducible first | exact HB.out | apply below_alloc | apply pw_below_drewN | apply below_drew1 | refine below_set ?_ (IsS124.ge HI0.out)) | exact HB.out), by repeat (first | (with_reducible first | exact HK.out | apply KeepBut.set_ | apply keep_drewN | apply keep_drew | apply keep_alloc) | exact HK.out)⟩
 ·rw [if_neg c3] at H
  have c3b0 : ((l1.length : Int) == 0) = false := beq_eq_false_iff_ne.mpr c3
  have c3b1 : ((l1.length : Int) != 0) = true := bne_iff_ne.mpr c3
  have c3b2 : ¬ (l1 = []) := fun h_ => c3 (by rw [h_]; rfl)
  replace H := Option.bind_eq_some_iff.mp H
  obtain ⟨⟨t304, t305, t306⟩, A40, H⟩ := H
  replace H : (if 0 ≤ t304 then (if t304 < (l1.length : Int) then (some (rdOf ByteArray.empty l1 t304, t305, t306)) else (none)) else (none)) = some (r1, r2, r3) := H
  have A4 := Aside0.mk A40
  clear A40
  by_cases c5 : 0 ≤ t304
  ·rw [if_pos c5] at H
   have c5b0 : decide (0 ≤ t304) = true := decide_eq_true c5
   clear c5
   by_cases c6 : t304 < (l1.length : Int)
   ·rw [if_pos c6] at H
    have c6b0 : decide (t304 < (l1.length : Int)) = true := decide_eq_true c6
    clear c6
    simp only [Option.some.injEq, Prod.mk.injEq] at H
    obtain ⟨rfl, rfl, rfl⟩ := H
    go_enter Try.func106, Try.ntmps106
    go_wp2_with (first | ((with_reducible refine gate_callee (f := 105) rfl ?_); refine goesL_ (some 12) rfl rfl Try.func105 (by kernel_rfl) rfl #[.pointer (some ⟨g, 0, none⟩), .int .i64 (l1.length : Int)] rfl (by (try simp only [List.map_toArray, List.map_cons, List.map_nil]); first | done | rfl | (simp only [List.length_drop, List.length_take]; rfl)) ?_; (with_reducible refine (spec_l00Src_next.calls g s0_0 s0_1 s0_2 (l1.length : Int) t304 t305 t306 w0 _ ?side1 ?side2 A4.out).mono ?_); (case side1 => repeat (first | (with_reducible first | exact HI0.out | apply IsS124.alloc | apply IsS124.drewN | apply IsS124.drew | apply IsS124.set_1 | apply IsS124.set_2) | exact HI0.out)); (case side2 => repeat (first | (with_reducible first | exact HB.out | apply below_alloc | apply pw_below_drewN | apply below_drew1 | refine below_set ?_ (IsS124.ge HI0.out)) | exact HB.out)); rintro e w7 ⟨rfl, hi, hb, hk⟩; refine ⟨_, rfl, ?_⟩; have n0_ := Aside0.mk (KeepBut.trans (by repeat (first | (with_reducible first | exact HK.out | apply KeepBut.set_ | apply keep_drewN | apply keep_drew | apply keep_alloc) | exact HK.out)) hk (.inl rfl)); have n1_ := Aside0.mk (hb); have n2_ := Aside0.mk (hi); clear HK; clear HB; clear HI0; have HK := n0_; have HB := n1_; have HI0 := n2_; clear n0_ n1_ n2_; (try clear hb); (try clear hb2); (try clear hk); (try clear hi); have p307 : 0 ≤ (t304 : Int) := of_decide_eq_true (by first | (with_reducible assumption) | assumption); have q307 : t304 < (l1.length : Int) := of_decide_eq_true (by first | (with_reducible assumption) | assumption); obtain ⟨ad307, e307, hx307_0⟩ := Kd.at_string HR1.out t304 p307 q307; cases e307; replace hx307_0 := keep_cell HK.out hx307_0 (by first | (rw [add_block]; exact hf1 _ rfl (by omega)) | exact hf1 _ rfl (by omega) | exact hf1 ad307 rfl (by omega)); replace p307 := eq_true p307; replace q307 := eq_true q307))
    go_ret
    exact ⟨by first | rfl | (simp [errW_none, errW_some] <;> rfl) | (simp [*, errW_none, errW_some] <;> rfl), by repeat (first | (with_reducible first | exact HI0.out | apply IsS124.alloc | apply IsS124.drewN | apply IsS124.drew | apply IsS124.set_1 | apply IsS124.set_2) | exact HI0.out), by repeat (first | (with_reducible first | exact HB.out | apply below_alloc | apply pw_below_drewN | apply below_drew1 | refine below_set ?_ (IsS124.ge HI0.out)) | exact HB.out), by repeat (first | (with_reducible first | exact HK.out | apply KeepBut.set_ | apply keep_drewN | apply keep_drew | apply keep_alloc) | exact HK.out)⟩
   ·rw [if_neg c6] at H
    exact absurd H (by simp)
  ·rw [if_neg c5] at H
   exact absurd H (by simp)

end Go.Proofs.Ythfhflgiblmooaa.PFs
