-- Printed by this session's own program (wip/tools/myprint.py over the kit's print, out of the translation). Nothing here is trusted: Lean checks it.
import Derived.Test.YthfhflgiblmooaaPDhx0
import Derived.Test.YthfhflgiblmooaaPDhx2
import Derived.Test.YthfhflgiblmooaaPDhx3
namespace Go.Proofs.Ythfhflgiblmooaa.PDh
open Go.RowKit Go.Proofs.YthfhflgiblmooaaW.PrintWords Go.Proofs.YthfhflgiblmooaaW.PrintLast Go.Proofs.YthfhflgiblmooaaW.PrintMore
attribute [local go_sem] w64_u8 w64_u8_4 max2_int min2_int max_two min_two max_three min_three max_four min_four   -- for this text's walks alone
set_option linter.unusedVariables false
set_option linter.unusedSimpArgs false

/-! ### impl_DhcpBytes: function 31 -/
def impl_DhcpBytes.j0 : Nat → Bool → Int → Int → Int → Bool → ByteArray → Option (List Int × Int)
  | 0, _, _, _, _, _, _ => none
  | k + 1, x26, x153000, x153001, x153002, x153003, x153004 => if x26 = true then (some (([] : List Int), 1)) else (if x153003 = true then ((impl_be.f k x153000 4).bind fun t160 => (if 8 ≤ 281474976710656 then ((impl_be.f k x153001 4).bind fun t166 => (if x153004.size ≤ 140737488355328 then (if 202 ≤ 281474976710656 then ((slices_Concat_byte_byte.f k (([(([2, 1, 6, 0] : List Int)), t160, (List.replicate 8 0), t166, (List.replicate 8 0), (bytesOf x153004), (List.replicate 202 0), (([99, 130, 83, 99] : List Int)), (([53, 1, (x153002) % 256, 255] : List Int))] : List (List Int)))).bind fun t187 => (some (t187, 0))) else (none)) else (none))) else (none))) else ((impl_be.f k x153000 4).bind fun t193 => (if 8 ≤ 281474976710656 then ((impl_be.f k x153001 4).bind fun t199 => (if x153004.size ≤ 140737488355328 then (if 202 ≤ 281474976710656 then ((slices_Concat_byte_byte.f k (([(([1, 1, 6, 0] : List Int)), t193, (List.replicate 8 0), t199, (List.replicate 8 0), (bytesOf x153004), (List.replicate 202 0), (([99, 130, 83, 99] : List Int)), (([53, 1, (x153002) % 256, 255] : List Int))] : List (List Int)))).bind fun t220 => (some (t220, 0))) else (none)) else (none))) else (none))))
def impl_DhcpBytes.f (k : Nat) (a0_0 : Int) (a0_1 : Int) (a0_2 : Int) (a0_3 : Bool) (a0_4 : ByteArray) : Option (List Int × Int) := (impl_isAddress.f a0_0).bind fun t153 => (if t153 = true then ((impl_isAddress.f a0_1).bind fun t154 => (if t154 = true then ((impl_within.f a0_2 1 8).bind fun t155 => (if t155 = true then ((impl_macOK.f a0_4).bind fun t156 => (impl_DhcpBytes.j0 k (!t156) a0_0 a0_1 a0_2 a0_3 a0_4)) else (impl_DhcpBytes.j0 k true a0_0 a0_1 a0_2 a0_3 a0_4))) else (impl_DhcpBytes.j0 k true a0_0 a0_1 a0_2 a0_3 a0_4))) else (impl_DhcpBytes.j0 k true a0_0 a0_1 a0_2 a0_3 a0_4))
theorem impl_DhcpBytes.mono_l : ∀ k, (∀ y0 y1 y2 y3 y4 y5, LeO (impl_DhcpBytes.j0 k y0 y1 y2 y3 y4 y5) (impl_DhcpBytes.j0 (k + 1) y0 y1 y2 y3 y4 y5))
  | 0 => fun _ _ _ _ _ _ r h => by simp [impl_DhcpBytes.j0] at h
  | k + 1 => by
    have ih0 := impl_DhcpBytes.mono_l k
    · intro y0 y1 y2 y3 y4 y5
      unfold impl_DhcpBytes.j0
      repeat' first
      | (with_reducible exact ih0 _ _ _ _ _ _)
      | (with_reducible exact impl_be.mono _ _ _)
      | (with_reducible exact slices_Concat_byte_byte.mono _ _)
      | (with_reducible exact LeO.refl _)
      | (with_reducible exact LeO.none _)
      | (with_reducible refine LeO.ite ?_ ?_)
      | (with_reducible refine LeO.bind ?_ (fun _ => ?_))
      | exact ih0 _ _ _ _ _ _
      | exact impl_be.mono _ _ _
      | exact slices_Concat_byte_byte.mono _ _
      | exact LeO.none _
      | refine LeO.ite ?_ ?_
      | refine LeO.bind ?_ (fun _ => ?_)
theorem impl_DhcpBytes.mono : ∀ a0 a1 a2 a3 a4 k, LeO (impl_DhcpBytes.f k a0 a1 a2 a3 a4) (impl_DhcpBytes.f (k + 1) a0 a1 a2 a3 a4) := by
  intro a0 a1 a2 a3 a4 k
  have ih0 := impl_DhcpBytes.mono_l k
  unfold impl_DhcpBytes.f
  repeat' first
      | (with_reducible exact ih0 _ _ _ _ _ _)
      | (with_reducible exact impl_be.mono _ _ _)
      | (with_reducible exact slices_Concat_byte_byte.mono _ _)
      | (with_reducible exact LeO.refl _)
      | (with_reducible exact LeO.none _)
      | (with_reducible refine LeO.ite ?_ ?_)
      | (with_reducible refine LeO.bind ?_ (fun _ => ?_))
      | exact ih0 _ _ _ _ _ _
      | exact impl_be.mono _ _ _
      | exact slices_Concat_byte_byte.mono _ _
      | exact LeO.none _
      | refine LeO.ite ?_ ?_
      | refine LeO.bind ?_ (fun _ => ?_)
def impl_DhcpBytes.T6 : Bool × List (List Nat × List Nat) := (true, [([], []), ([0], [0]), ([], []), ([2], [2]), ([3], [3]), ([], []), ([], []), ([6], [6]), ([7, 4], [7]), ([], []), ([], []), ([10], [10]), ([11], [11]), ([], []), ([], []), ([14], [14]), ([], []), ([16], [16]), ([17], [17]), ([18], [18]), ([1, 4, 5, 8, 9, 12, 13, 15, 19], [1, 4, 5, 8, 9, 12, 13, 15, 19]), ([20, 8], [20]), ([21, 21, 0, 1, 2, 3, 4, 5, 6, 7, 8, 9, 10, 11, 12, 13, 14, 15, 16, 17, 18, 19, 20, 21], [21]), ([22, 0, 1, 2, 3, 4, 5, 6, 7, 8, 9, 10, 11, 12, 13, 14, 15, 16, 17, 18, 19, 20, 21, 22], [])])
def impl_DhcpBytes.B6 : List Nat := [0, 1, 0, 4, 12, 0, 0, 64, 220, 0, 0, 1024, 3072, 0, 0, 16384, 0, 65536, 196608, 458752, 1048575, 2097151, 4194303, 8388607]
theorem impl_DhcpBytes.tab6 : rtab .any (opsOf Try.f31 6) = impl_DhcpBytes.T6 := by kernel_rfl
theorem impl_DhcpBytes.bits6 : waitsOk impl_DhcpBytes.T6.2 impl_DhcpBytes.B6 = true := by kernel_rfl
set_option maxHeartbeats 8000000 in
set_option maxRecDepth 100000 in
theorem impl_DhcpBytes.calls (k : Nat) (a0_0 : Int) (a0_1 : Int) (a0_2 : Int) (a0_3 : Bool) (a0_4 : ByteArray) (r1 : List Int) (r2 : Int) (w : World) (h : impl_DhcpBytes.f k a0_0 a0_1 a0_2 a0_3 a0_4 = some (r1, r2)) :
    Calls Try.prog 31 #[.agg #[.int .i64 a0_0, .int .i64 a0_1, .int .i64 a0_2, .bool a0_3, .string a0_4]] w fun e w' => ∃ v0_ : Value, e = .returned (.tuple #[v0_, .int .i64 r2]) ∧ Kd.R (Kd.int .u8) 5 w' w.heap.size (fun _ => True) v0_ r1 ∧ Below w.heap.size w w' := by
  have hu46 := Try.underlying46
  have HB := Aside0.mk (Below.refl w.heap.size w)
  have H : ((impl_isAddress.f a0_0).bind fun t153 => (if t153 = true then ((impl_isAddress.f a0_1).bind fun t154 => (if t154 = true then ((impl_within.f a0_2 1 8).bind fun t155 => (if t155 = true then ((impl_macOK.f a0_4).bind fun t156 => (impl_DhcpBytes.j0 k (!t156) a0_0 a0_1 a0_2 a0_3 a0_4)) else (impl_DhcpBytes.j0 k true a0_0 a0_1 a0_2 a0_3 a0_4))) else (impl_DhcpBytes.j0 k true a0_0 a0_1 a0_2 a0_3 a0_4))) else (impl_DhcpBytes.j0 k true a0_0 a0_1 a0_2 a0_3 a0_4))) = some (r1, r2) := h
  clear h
  have HC2 := Aside0.mk H
  clear H
  go_enter Try.func31, Try.ntmps31
  go_upto_region 1 with (first | ((with_reducible refine gate_dst (N := 1) rfl ?_); refine box_event ?hg (N := 1) ?hd (cs := #[.int .i64 a0_0, .int .i64 a0_1, .int .i64 a0_2, .bool a0_3, .string a0_4]) (t := 46) ?hr ?_; (case hd => rfl); (case hg => rfl); (case hr => first | (go_simp; done) | (go_simp; rfl)); intro gb152 hg w3 hbox hb; have n0_ := Aside0.mk (below_step (by repeat (first | (with_reducible first | exact HB.out | apply below_alloc | apply pw_below_drewN | apply below_drew1) | exact HB.out)) hb); have n1_ := Aside0.mk (hbox); have n2_ := Aside0.mk ((by rw [hg]; exact (below_size (by repeat (first | (with_reducible first | exact HB.out | apply below_alloc | apply pw_below_drewN | apply below_drew1) | exact HB.out))) : w.heap.size ≤ gb152)); have n3_ := Aside0.mk ((by rw [hg]; exact (below_size (by repeat (first | (with_reducible first | exact HB.out | apply below_alloc | apply pw_below_drewN | apply below_drew1) | exact HB.out))) : w.heap.size ≤ gb152)); clear HB; have HB := n0_; have BK152 := n1_; have GW152 := n2_; have GE152 := n3_; clear n0_ n1_ n2_ n3_; clear hb hbox hg))
  (try simp only [Act.put, List.setIfInBounds_toArray, List.set_cons_zero, List.set_cons_succ])
  go_cut [26] (fun v26 wc => ∃ (kq : Nat) (x26_1 : Bool), v26 = .bool x26_1 ∧ Aside0 (impl_DhcpBytes.j0 kq x26_1 a0_0 a0_1 a0_2 a0_3 a0_4 = some (r1, r2)) ∧ Aside0 (kq ≤ k) ∧ Aside0 (wc.heap[gb152]? = some (.cells #[.int .i64 a0_0, .int .i64 a0_1, .int .i64 a0_2, .bool a0_3, .string a0_4] 46 (0, 0))) ∧ Aside0 (Below w.heap.size w wc))
  case first =>
    have H := HC2.out
    clear HC2
    replace H := Option.bind_eq_some_iff.mp H
    obtain ⟨t153, A40, H⟩ := H
    replace H : (if t153 = true then ((impl_isAddress.f a0_1).bind fun t154 => (if t154 = true then ((impl_within.f a0_2 1 8).bind fun t155 => (if t155 = true then ((impl_macOK.f a0_4).bind fun t156 => (impl_DhcpBytes.j0 k (!t156) a0_0 a0_1 a0_2 a0_3 a0_4)) else (impl_DhcpBytes.j0 k true a0_0 a0_1 a0_2 a0_3 a0_4))) else (impl_DhcpBytes.j0 k true a0_0 a0_1 a0_2 a0_3 a0_4))) else (impl_DhcpBytes.j0 k true a0_0 a0_1 a0_2 a0_3 a0_4)) = some (r1, r2) := H
    have A4 := Aside0.mk A40
    clear A40
    by_cases c5 : t153 = true
    · subst c5
      have H1 : ((impl_isAddress.f a0_1).bind fun t154 => (if t154 = true then ((impl_within.f a0_2 1 8).bind fun t155 => (if t155 = true then ((impl_macOK.f a0_4).bind fun t156 => (impl_DhcpBytes.j0 k (!t156) a0_0 a0_1 a0_2 a0_3 a0_4)) else (impl_DhcpBytes.j0 k true a0_0 a0_1 a0_2 a0_3 a0_4))) else (impl_DhcpBytes.j0 k true a0_0 a0_1 a0_2 a0_3 a0_4))) = some (r1, r2) := by rw [if_pos rfl] at H; exact H
      clear H
      have H := H1
      clear H1
      replace H := Option.bind_eq_some_iff.mp H
      obtain ⟨t154, A60, H⟩ := H
      replace H : (if t154 = true then ((impl_within.f a0_2 1 8).bind fun t155 => (if t155 = true then ((impl_macOK.f a0_4).bind fun t156 => (impl_DhcpBytes.j0 k (!t156) a0_0 a0_1 a0_2 a0_3 a0_4)) else (impl_DhcpBytes.j0 k true a0_0 a0_1 a0_2 a0_3 a0_4))) else (impl_DhcpBytes.j0 k true a0_0 a0_1 a0_2 a0_3 a0_4)) = some (r1, r2) := H
      have A6 := Aside0.mk A60
      clear A60
      by_cases c7 : t154 = true
      · subst c7
        have H1 : ((impl_within.f a0_2 1 8).bind fun t155 => (if t155 = true then ((impl_macOK.f a0_4).bind fun t156 => (impl_DhcpBytes.j0 k (!t156) a0_0 a0_1 a0_2 a0_3 a0_4)) else (impl_DhcpBytes.j0 k true a0_0 a0_1 a0_2 a0_3 a0_4))) = some (r1, r2) := by rw [if_pos rfl] at H; exact H
        clear H
        have H := H1
        clear H1
        replace H := Option.bind_eq_some_iff.mp H
        obtain ⟨t155, A80, H⟩ := H
        replace H : (if t155 = true then ((impl_macOK.f a0_4).bind fun t156 => (impl_DhcpBytes.j0 k (!t156) a0_0 a0_1 a0_2 a0_3 a0_4)) else (impl_DhcpBytes.j0 k true a0_0 a0_1 a0_2 a0_3 a0_4)) = some (r1, r2) := H
        have A8 := Aside0.mk A80
        clear A80
        by_cases c9 : t155 = true
        · subst c9
          have H1 : ((impl_macOK.f a0_4).bind fun t156 => (impl_DhcpBytes.j0 k (!t156) a0_0 a0_1 a0_2 a0_3 a0_4)) = some (r1, r2) := by rw [if_pos rfl] at H; exact H
          clear H
          have H := H1
          clear H1
          replace H := Option.bind_eq_some_iff.mp H
          obtain ⟨t156, A100, H⟩ := H
          replace H : (impl_DhcpBytes.j0 k (!t156) a0_0 a0_1 a0_2 a0_3 a0_4) = some (r1, r2) := H
          have A10 := Aside0.mk A100
          clear A100
          have H' := Aside0.mk H
          clear H
          have hcz11_0 : w3.cell? ⟨gb152, 0, none⟩ = some (.int .i64 a0_0) := (blk_cell BK152.out 0).trans rfl
          have hcz11_1 : w3.cell? ⟨gb152, 1, none⟩ = some (.int .i64 a0_1) := (blk_cell BK152.out 1).trans rfl
          have hcz11_2 : w3.cell? ⟨gb152, 2, none⟩ = some (.int .i64 a0_2) := (blk_cell BK152.out 2).trans rfl
          have hcz11_3 : w3.cell? ⟨gb152, 3, none⟩ = some (.bool a0_3) := (blk_cell BK152.out 3).trans rfl
          have hcz11_4 : w3.cell? ⟨gb152, 4, none⟩ = some (.string a0_4) := (blk_cell BK152.out 4).trans rfl
          have hfz11_0 := blk_frozen BK152.out 0
          have hfz11_1 := blk_frozen BK152.out 1
          have hfz11_2 := blk_frozen BK152.out 2
          have hfz11_3 := blk_frozen BK152.out 3
          have hfz11_4 := blk_frozen BK152.out 4
          go_wp2_with (first | ((with_reducible refine gate_callee (f := 73) rfl ?_); refine goesL_ (some 7) rfl rfl Try.func73 (by kernel_rfl) rfl #[.int .i64 a0_0] rfl (by (try simp only [List.map_toArray, List.map_cons, List.map_nil]); first | done | rfl | (simp only [List.length_drop, List.length_take]; rfl)) ?_; (with_reducible refine (impl_isAddress.calls a0_0 true _ A4.out).mono ?_); rintro e w' ⟨rfl, ⟨nd, rfl⟩⟩; refine ⟨_, rfl, ?_⟩) | (go_at_call 73; (with_reducible refine (impl_isAddress.calls a0_1 true _ A6.out).mono ?_); rintro e w' ⟨rfl, ⟨nd, rfl⟩⟩) | (go_at_call 61; (with_reducible refine (impl_within.calls a0_2 1 8 true _ A8.out).mono ?_); rintro e w' ⟨rfl, ⟨nd, rfl⟩⟩) | (go_at_call 65; (with_reducible refine (impl_macOK.calls a0_4 t156 _ A10.out).mono ?_); rintro e w' ⟨rfl, ⟨nd, rfl⟩⟩))
          go_meet
          case rel => exact ⟨_, (!t156), (by first | rfl | (simp; done) | (simp [*]; done)), H', ⟨by first | omega | exact Nat.le_refl _⟩, ⟨by (with_reducible repeat (first | refine blk_drewN ?_ _ | refine blk_drew ?_ | refine blk_alloc ?_ _)); exact BK152.out⟩, ⟨by repeat (first | (with_reducible first | exact HB.out | apply below_alloc | apply pw_below_drewN | apply below_drew1 | refine below_set ?_ GE152.out) | exact HB.out)⟩⟩
        · replace c9 := Bool.eq_false_iff.mpr c9
          subst c9
          have H1 : (impl_DhcpBytes.j0 k true a0_0 a0_1 a0_2 a0_3 a0_4) = some (r1, r2) := by rw [if_neg (show ¬ (false = true) by decide)] at H; exact H
          clear H
          have H := H1
          clear H1
          have H' := Aside0.mk H
          clear H
          have hcz12_0 : w3.cell? ⟨gb152, 0, none⟩ = some (.int .i64 a0_0) := (blk_cell BK152.out 0).trans rfl
          have hcz12_1 : w3.cell? ⟨gb152, 1, none⟩ = some (.int .i64 a0_1) := (blk_cell BK152.out 1).trans rfl
          have hcz12_2 : w3.cell? ⟨gb152, 2, none⟩ = some (.int .i64 a0_2) := (blk_cell BK152.out 2).trans rfl
          have hcz12_3 : w3.cell? ⟨gb152, 3, none⟩ = some (.bool a0_3) := (blk_cell BK152.out 3).trans rfl
          have hcz12_4 : w3.cell? ⟨gb152, 4, none⟩ = some (.string a0_4) := (blk_cell BK152.out 4).trans rfl
          have hfz12_0 := blk_frozen BK152.out 0
          have hfz12_1 := blk_frozen BK152.out 1
          have hfz12_2 := blk_frozen BK152.out 2
          have hfz12_3 := blk_frozen BK152.out 3
          have hfz12_4 := blk_frozen BK152.out 4
          go_wp2_with (first | ((with_reducible refine gate_callee (f := 73) rfl ?_); refine goesL_ (some 7) rfl rfl Try.func73 (by kernel_rfl) rfl #[.int .i64 a0_0] rfl (by (try simp only [List.map_toArray, List.map_cons, List.map_nil]); first | done | rfl | (simp only [List.length_drop, List.length_take]; rfl)) ?_; (with_reducible refine (impl_isAddress.calls a0_0 true _ A4.out).mono ?_); rintro e w' ⟨rfl, ⟨nd, rfl⟩⟩; refine ⟨_, rfl, ?_⟩) | (go_at_call 73; (with_reducible refine (impl_isAddress.calls a0_1 true _ A6.out).mono ?_); rintro e w' ⟨rfl, ⟨nd, rfl⟩⟩) | (go_at_call 61; (with_reducible refine (impl_within.calls a0_2 1 8 false _ A8.out).mono ?_); rintro e w' ⟨rfl, ⟨nd, rfl⟩⟩))
          go_meet
          case rel => exact ⟨_, (true), (by first | rfl | (simp; done) | (simp [*]; done)), H', ⟨by first | omega | exact Nat.le_refl _⟩, ⟨by (with_reducible repeat (first | refine blk_drewN ?_ _ | refine blk_drew ?_ | refine blk_alloc ?_ _)); exact BK152.out⟩, ⟨by repeat (first | (with_reducible first | exact HB.out | apply below_alloc | apply pw_below_drewN | apply below_drew1 | refine below_set ?_ GE152.out) | exact HB.out)⟩⟩
      · replace c7 := Bool.eq_false_iff.mpr c7
        subst c7
        have H1 : (impl_DhcpBytes.j0 k true a0_0 a0_1 a0_2 a0_3 a0_4) = some (r1, r2) := by rw [if_neg (show ¬ (false = true) by decide)] at H; exact H
        clear H
        have H := H1
        clear H1
        have H' := Aside0.mk H
        clear H
        have hcz13_0 : w3.cell? ⟨gb152, 0, none⟩ = some (.int .i64 a0_0) := (blk_cell BK152.out 0).trans rfl
        have hcz13_1 : w3.cell? ⟨gb152, 1, none⟩ = some (.int .i64 a0_1) := (blk_cell BK152.out 1).trans rfl
        have hcz13_2 : w3.cell? ⟨gb152, 2, none⟩ = some (.int .i64 a0_2) := (blk_cell BK152.out 2).trans rfl
        have hcz13_3 : w3.cell? ⟨gb152, 3, none⟩ = some (.bool a0_3) := (blk_cell BK152.out 3).trans rfl
        have hcz13_4 : w3.cell? ⟨gb152, 4, none⟩ = some (.string a0_4) := (blk_cell BK152.out 4).trans rfl
        have hfz13_0 := blk_frozen BK152.out 0
        have hfz13_1 := blk_frozen BK152.out 1
        have hfz13_2 := blk_frozen BK152.out 2
        have hfz13_3 := blk_frozen BK152.out 3
        have hfz13_4 := blk_frozen BK152.out 4
        go_wp2_with (first | ((with_reducible refine gate_callee (f := 73) rfl ?_); refine goesL_ (some 7) rfl rfl Try.func73 (by kernel_rfl) rfl #[.int .i64 a0_0] rfl (by (try simp only [List.map_toArray, List.map_cons, List.map_nil]); first | done | rfl | (simp only [List.length_drop, List.length_take]; rfl)) ?_; (with_reducible refine (impl_isAddress.calls a0_0 true _ A4.out).mono ?_); rintro e w' ⟨rfl, ⟨nd, rfl⟩⟩; refine ⟨_, rfl, ?_⟩) | (go_at_call 73; (with_reducible refine (impl_isAddress.calls a0_1 false _ A6.out).mono ?_); rintro e w' ⟨rfl, ⟨nd, rfl⟩⟩))
        go_meet
        case rel => exact ⟨_, (true), (by first | rfl | (simp; done) | (simp [*]; done)), H', ⟨by first | omega | exact Nat.le_refl _⟩, ⟨by (with_reducible repeat (first | refine blk_drewN ?_ _ | refine blk_drew ?_ | refine blk_alloc ?_ _)); exact BK152.out⟩, ⟨by repeat (first | (with_reducible first | exact HB.out | apply below_alloc | apply pw_below_drewN | apply below_drew1 | refine below_set ?_ GE152.out) | exact HB.out)⟩⟩
    · replace c5 := Bool.eq_false_iff.mpr c5
      subst c5
      have H1 : (impl_DhcpBytes.j0 k true a0_0 a0_1 a0_2 a0_3 a0_4) = some (r1, r2) := by rw [if_neg (show ¬ (false = true) by decide)] at H; exact H
      clear H
      have H := H1
      clear H1
      have H' := Aside0.mk H
      clear H
      have hcz14_0 : w3.cell? ⟨gb152, 0, none⟩ = some (.int .i64 a0_0) := (blk_cell BK152.out 0).trans rfl
      have hcz14_1 : w3.cell? ⟨gb152, 1, none⟩ = some (.int .i64 a0_1) := (blk_cell BK152.out 1).trans rfl
      have hcz14_2 : w3.cell? ⟨gb152, 2, none⟩ = some (.int .i64 a0_2) := (blk_cell BK152.out 2).trans rfl
      have hcz14_3 : w3.cell? ⟨gb152, 3, none⟩ = some (.bool a0_3) := (blk_cell BK152.out 3).trans rfl
      have hcz14_4 : w3.cell? ⟨gb152, 4, none⟩ = some (.string a0_4) := (blk_cell BK152.out 4).trans rfl
      have hfz14_0 := blk_frozen BK152.out 0
      have hfz14_1 := blk_frozen BK152.out 1
      have hfz14_2 := blk_frozen BK152.out 2
      have hfz14_3 := blk_frozen BK152.out 3
      have hfz14_4 := blk_frozen BK152.out 4
      go_wp2_with (first | ((with_reducible refine gate_callee (f := 73) rfl ?_); refine goesL_ (some 7) rfl rfl Try.func73 (by kernel_rfl) rfl #[.int .i64 a0_0] rfl (by (try simp only [List.map_toArray, List.map_cons, List.map_nil]); first | done | rfl | (simp only [List.length_drop, List.length_take]; rfl)) ?_; (with_reducible refine (impl_isAddress.calls a0_0 false _ A4.out).mono ?_); rintro e w' ⟨rfl, ⟨nd, rfl⟩⟩; refine ⟨_, rfl, ?_⟩))
      go_meet
      case rel => exact ⟨_, (true), (by first | rfl | (simp; done) | (simp [*]; done)), H', ⟨by first | omega | exact Nat.le_refl _⟩, ⟨by (with_reducible repeat (first | refine blk_drewN ?_ _ | refine blk_drew ?_ | refine blk_alloc ?_ _)); exact BK152.out⟩, ⟨by repeat (first | (with_reducible first | exact HB.out | apply below_alloc | apply pw_below_drewN | apply below_drew1 | refine below_set ?_ GE152.out) | exact HB.out)⟩⟩
  case rest =>
    clear HC2
    try clear p2
    try clear c3
    try clear c5
    try clear c7
    try clear c9
    try clear hcz11_0
    try clear hcz11_1
    try clear hcz11_2
    try clear hcz11_3
    try clear hcz11_4
    try clear hcz12_0
    try clear hcz12_1
    try clear hcz12_2
    try clear hcz12_3
    try clear hcz12_4
    try clear hcz13_0
    try clear hcz13_1
    try clear hcz13_2
    try clear hcz13_3
    try clear hcz13_4
    try clear hcz14_0
    try clear hcz14_1
    try clear hcz14_2
    try clear hcz14_3
    try clear hcz14_4
    try clear hfz11_0
    try clear hfz11_1
    try clear hfz11_2
    try clear hfz11_3
    try clear hfz11_4
    try clear hfz12_0
    try clear hfz12_1
    try clear hfz12_2
    try clear hfz12_3
    try clear hfz12_4
    try clear hfz13_0
    try clear hfz13_1
    try clear hfz13_2
    try clear hfz13_3
    try clear hfz13_4
    try clear hfz14_0
    try clear hfz14_1
    try clear hfz14_2
    try clear hfz14_3
    try clear hfz14_4
    obtain ⟨kq, x26_1, rfl, HA, HJ1, BK152, HB⟩ := hcut
    cases kq with
    | zero => exact absurd HA.out (by simp [impl_DhcpBytes.j0])
    | succ kj1 =>
      have H := HA.out
      clear HA
      simp only [impl_DhcpBytes.j0] at H
      by_cases c15 : x26_1 = true
      · subst c15
        have H1 : (some (([] : List Int), 1)) = some (r1, r2) := by rw [if_pos rfl] at H; exact H
        clear H
        have H := H1
        clear H1
        simp only [Option.some.injEq, Prod.mk.injEq] at H
        obtain ⟨rfl, rfl⟩ := H
        go_wp2
        go_ret2
        exact ⟨_, by first | rfl | (simp [errW_none, errW_some] <;> rfl) | (simp [*, errW_none, errW_some] <;> rfl), by first | exact Kd.R_nil _ _ _ _ _ | exact Kd.N_nil _ _ _ _ _ | exact Kd.V_nil _ _ _ _ _ | exact Kd.Q_nil _ _ _ _ _ | exact Kd.S_nil _ _ _ _ _, by repeat (first | (with_reducible first | exact HB.out | apply below_alloc | apply pw_below_drewN | apply below_drew1 | refine below_set ?_ GE152.out) | exact HB.out)⟩
      · replace c15 := Bool.eq_false_iff.mpr c15
        subst c15
        have H1 : (if a0_3 = true then ((impl_be.f kj1 a0_0 4).bind fun t160 => (if 8 ≤ 281474976710656 then ((impl_be.f kj1 a0_1 4).bind fun t166 => (if a0_4.size ≤ 140737488355328 then (if 202 ≤ 281474976710656 then ((slices_Concat_byte_byte.f kj1 (([(([2, 1, 6, 0] : List Int)), t160, (List.replicate 8 0), t166, (List.replicate 8 0), (bytesOf a0_4), (List.replicate 202 0), (([99, 130, 83, 99] : List Int)), (([53, 1, (a0_2) % 256, 255] : List Int))] : List (List Int)))).bind fun t187 => (some (t187, 0))) else (none)) else (none))) else (none))) else ((impl_be.f kj1 a0_0 4).bind fun t193 => (if 8 ≤ 281474976710656 then ((impl_be.f kj1 a0_1 4).bind fun t199 => (if a0_4.size ≤ 140737488355328 then (if 202 ≤ 281474976710656 then ((slices_Concat_byte_byte.f kj1 (([(([1, 1, 6, 0] : List Int)), t193, (List.replicate 8 0), t199, (List.replicate 8 0), (bytesOf a0_4), (List.replicate 202 0), (([99, 130, 83, 99] : List Int)), (([53, 1, (a0_2) % 256, 255] : List Int))] : List (List Int)))).bind fun t220 => (some (t220, 0))) else (none)) else (none))) else (none)))) = some (r1, r2) := by rw [if_neg (show ¬ (false = true) by decide)] at H; exact H
        clear H
        have H := H1
        clear H1
        by_cases c16 : a0_3 = true
        · subst c16
          have H1 : ((impl_be.f kj1 a0_0 4).bind fun t160 => (if 8 ≤ 281474976710656 then ((impl_be.f kj1 a0_1 4).bind fun t166 => (if a0_4.size ≤ 140737488355328 then (if 202 ≤ 281474976710656 then ((slices_Concat_byte_byte.f kj1 (([(([2, 1, 6, 0] : List Int)), t160, (List.replicate 8 0), t166, (List.replicate 8 0), (bytesOf a0_4), (List.replicate 202 0), (([99, 130, 83, 99] : List Int)), (([53, 1, (a0_2) % 256, 255] : List Int))] : List (List Int)))).bind fun t187 => (some (t187, 0))) else (none)) else (none))) else (none))) = some (r1, r2) := by rw [if_pos rfl] at H; exact H
          clear H
          have H := H1
          clear H1
          obtain ⟨y157, hy157⟩ : ∃ y_ : List Int, y_ = (([2, 1, 6, 0] : List Int)) := ⟨_, rfl⟩
          replace H : ((impl_be.f kj1 a0_0 4).bind fun t160 => (if 8 ≤ 281474976710656 then ((impl_be.f kj1 a0_1 4).bind fun t166 => (if a0_4.size ≤ 140737488355328 then (if 202 ≤ 281474976710656 then ((slices_Concat_byte_byte.f kj1 (([y157, t160, (List.replicate 8 0), t166, (List.replicate 8 0), (bytesOf a0_4), (List.replicate 202 0), (([99, 130, 83, 99] : List Int)), (([53, 1, (a0_2) % 256, 255] : List Int))] : List (List Int)))).bind fun t187 => (some (t187, 0))) else (none)) else (none))) else (none))) = some (r1, r2) := by first | (rw [hy157]; with_reducible exact H) | (have H2_ := (Option.bind_some _ _).symm.trans H; rw [hy157]; with_reducible exact H2_) | (have H2_ := (Option.bind_some _ _).symm.trans H; with_reducible exact H2_) | with_reducible exact H | (rw [hy157]; exact H) | exact H
          have Ny157 := Aside0.mk hy157
          clear hy157
          replace H := Option.bind_eq_some_iff.mp H
          obtain ⟨t160, A170, H⟩ := H
          replace H : (if 8 ≤ 281474976710656 then ((impl_be.f kj1 a0_1 4).bind fun t166 => (if a0_4.size ≤ 140737488355328 then (if 202 ≤ 281474976710656 then ((slices_Concat_byte_byte.f kj1 (([y157, t160, (List.replicate 8 0), t166, (List.replicate 8 0), (bytesOf a0_4), (List.replicate 202 0), (([99, 130, 83, 99] : List Int)), (([53, 1, (a0_2) % 256, 255] : List Int))] : List (List Int)))).bind fun t187 => (some (t187, 0))) else (none)) else (none))) else (none)) = some (r1, r2) := H
          have A17 := Aside0.mk A170
          clear A170
          by_cases c18 : 8 ≤ 281474976710656
          · rw [if_pos c18] at H
            have c18b0 := eq_true c18
            have c18b1 : decide (8 ≤ 281474976710656) = true := decide_eq_true c18
            clear c18
            obtain ⟨y163, hy163⟩ : ∃ y_ : List Int, y_ = (List.replicate 8 0) := ⟨_, rfl⟩
            replace H : ((impl_be.f kj1 a0_1 4).bind fun t166 => (if a0_4.size ≤ 140737488355328 then (if 202 ≤ 281474976710656 then ((slices_Concat_byte_byte.f kj1 (([y157, t160, y163, t166, (List.replicate 8 0), (bytesOf a0_4), (List.replicate 202 0), (([99, 130, 83, 99] : List Int)), (([53, 1, (a0_2) % 256, 255] : List Int))] : List (List Int)))).bind fun t187 => (some (t187, 0))) else (none)) else (none))) = some (r1, r2) := by first | (rw [hy163]; with_reducible exact H) | (have H2_ := (Option.bind_some _ _).symm.trans H; rw [hy163]; with_reducible exact H2_) | (have H2_ := (Option.bind_some _ _).symm.trans H; with_reducible exact H2_) | with_reducible exact H | (rw [hy163]; exact H) | exact H
            have Ny163 := Aside0.mk hy163
            clear hy163
            replace H := Option.bind_eq_some_iff.mp H
            obtain ⟨t166, A190, H⟩ := H
            replace H : (if a0_4.size ≤ 140737488355328 then (if 202 ≤ 281474976710656 then ((slices_Concat_byte_byte.f kj1 (([y157, t160, y163, t166, (List.replicate 8 0), (bytesOf a0_4), (List.replicate 202 0), (([99, 130, 83, 99] : List Int)), (([53, 1, (a0_2) % 256, 255] : List Int))] : List (List Int)))).bind fun t187 => (some (t187, 0))) else (none)) else (none)) = some (r1, r2) := H
            have A19 := Aside0.mk A190
            clear A190
            obtain ⟨y169, hy169⟩ : ∃ y_ : List Int, y_ = (List.replicate 8 0) := ⟨_, rfl⟩
            replace H : (if a0_4.size ≤ 140737488355328 then (if 202 ≤ 281474976710656 then ((slices_Concat_byte_byte.f kj1 (([y157, t160, y163, t166, y169, (bytesOf a0_4), (List.replicate 202 0), (([99, 130, 83, 99] : List Int)), (([53, 1, (a0_2) % 256, 255] : List Int))] : List (List Int)))).bind fun t187 => (some (t187, 0))) else (none)) else (none)) = some (r1, r2) := by first | (rw [hy169]; with_reducible exact H) | (have H2_ := (Option.bind_some _ _).symm.trans H; rw [hy169]; with_reducible exact H2_) | (have H2_ := (Option.bind_some _ _).symm.trans H; with_reducible exact H2_) | with_reducible exact H | (rw [hy169]; exact H) | exact H
            have Ny169 := Aside0.mk hy169
            clear hy169
            by_cases c20 : a0_4.size ≤ 140737488355328
            · rw [if_pos c20] at H
              have c20b0 := eq_true c20
              have c20b1 : decide (a0_4.size ≤ 140737488355328) = true := decide_eq_true c20
              clear c20
              obtain ⟨y172, hy172⟩ : ∃ y_ : List Int, y_ = (bytesOf a0_4) := ⟨_, rfl⟩
              replace H : (if 202 ≤ 281474976710656 then ((slices_Concat_byte_byte.f kj1 (([y157, t160, y163, t166, y169, y172, (List.replicate 202 0), (([99, 130, 83, 99] : List Int)), (([53, 1, (a0_2) % 256, 255] : List Int))] : List (List Int)))).bind fun t187 => (some (t187, 0))) else (none)) = some (r1, r2) := by first | (rw [hy172]; with_reducible exact H) | (have H2_ := (Option.bind_some _ _).symm.trans H; rw [hy172]; with_reducible exact H2_) | (have H2_ := (Option.bind_some _ _).symm.trans H; with_reducible exact H2_) | with_reducible exact H | (rw [hy172]; exact H) | exact H
              have Ny172 := Aside0.mk hy172
              clear hy172
              by_cases c21 : 202 ≤ 281474976710656
              · rw [if_pos c21] at H
                have c21b0 := eq_true c21
                have c21b1 : decide (202 ≤ 281474976710656) = true := decide_eq_true c21
                clear c21
                obtain ⟨y175, hy175⟩ : ∃ y_ : List Int, y_ = (List.replicate 202 0) := ⟨_, rfl⟩
                replace H : ((slices_Concat_byte_byte.f kj1 (([y157, t160, y163, t166, y169, y172, y175, (([99, 130, 83, 99] : List Int)), (([53, 1, (a0_2) % 256, 255] : List Int))] : List (List Int)))).bind fun t187 => (some (t187, 0))) = some (r1, r2) := by first | (rw [hy175]; with_reducible exact H) | (have H2_ := (Option.bind_some _ _).symm.trans H; rw [hy175]; with_reducible exact H2_) | (have H2_ := (Option.bind_some _ _).symm.trans H; with_reducible exact H2_) | with_reducible exact H | (rw [hy175]; exact H) | exact H
                have Ny175 := Aside0.mk hy175
                clear hy175
                obtain ⟨y178, hy178⟩ : ∃ y_ : List Int, y_ = (([99, 130, 83, 99] : List Int)) := ⟨_, rfl⟩
                replace H : ((slices_Concat_byte_byte.f kj1 (([y157, t160, y163, t166, y169, y172, y175, y178, (([53, 1, (a0_2) % 256, 255] : List Int))] : List (List Int)))).bind fun t187 => (some (t187, 0))) = some (r1, r2) := by first | (rw [hy178]; with_reducible exact H) | (have H2_ := (Option.bind_some _ _).symm.trans H; rw [hy178]; with_reducible exact H2_) | (have H2_ := (Option.bind_some _ _).symm.trans H; with_reducible exact H2_) | with_reducible exact H | (rw [hy178]; exact H) | exact H
                have Ny178 := Aside0.mk hy178
                clear hy178
                obtain ⟨y181, hy181⟩ : ∃ y_ : List Int, y_ = (([53, 1, (a0_2) % 256, 255] : List Int)) := ⟨_, rfl⟩
                replace H : ((slices_Concat_byte_byte.f kj1 (([y157, t160, y163, t166, y169, y172, y175, y178, y181] : List (List Int)))).bind fun t187 => (some (t187, 0))) = some (r1, r2) := by first | (rw [hy181]; with_reducible exact H) | (have H2_ := (Option.bind_some _ _).symm.trans H; rw [hy181]; with_reducible exact H2_) | (have H2_ := (Option.bind_some _ _).symm.trans H; with_reducible exact H2_) | with_reducible exact H | (rw [hy181]; exact H) | exact H
                have Ny181 := Aside0.mk hy181
                clear hy181
                obtain ⟨y184, hy184⟩ : ∃ y_ : List (List Int), y_ = (([y157, t160, y163, t166, y169, y172, y175, y178, y181] : List (List Int))) := ⟨_, rfl⟩
                replace H : ((slices_Concat_byte_byte.f kj1 y184).bind fun t187 => (some (t187, 0))) = some (r1, r2) := by first | (rw [hy184]; with_reducible exact H) | (have H2_ := (Option.bind_some _ _).symm.trans H; rw [hy184]; with_reducible exact H2_) | (have H2_ := (Option.bind_some _ _).symm.trans H; with_reducible exact H2_) | with_reducible exact H | (rw [hy184]; exact H) | exact H
                have Ny184 := Aside0.mk hy184
                clear hy184
                replace H := Option.bind_eq_some_iff.mp H
                obtain ⟨t187, A220, H⟩ := H
                replace H : (some (t187, 0)) = some (r1, r2) := H
                have A22 := Aside0.mk A220
                clear A220
                simp only [Option.some.injEq, Prod.mk.injEq] at H
                obtain ⟨rfl, rfl⟩ := H
                have hcz23_0 : wc.cell? ⟨gb152, 0, none⟩ = some (.int .i64 a0_0) := (blk_cell BK152.out 0).trans rfl
                have hcz23_1 : wc.cell? ⟨gb152, 1, none⟩ = some (.int .i64 a0_1) := (blk_cell BK152.out 1).trans rfl
                have hcz23_2 : wc.cell? ⟨gb152, 2, none⟩ = some (.int .i64 a0_2) := (blk_cell BK152.out 2).trans rfl
                have hcz23_3 : wc.cell? ⟨gb152, 3, none⟩ = some (.bool true) := (blk_cell BK152.out 3).trans rfl
                have hcz23_4 : wc.cell? ⟨gb152, 4, none⟩ = some (.string a0_4) := (blk_cell BK152.out 4).trans rfl
                have hfz23_0 := blk_frozen BK152.out 0
                have hfz23_1 := blk_frozen BK152.out 1
                have hfz23_2 := blk_frozen BK152.out 2
                have hfz23_3 := blk_frozen BK152.out 3
                have hfz23_4 := blk_frozen BK152.out 4
                try go_wp2
                have n0_ := Aside0.mk (blk_drew BK152.out)
                have n1_ := Aside0.mk (below_drew1 HB.out)
                clear BK152
                clear HB
                have BK152 := n0_
                have HB := n1_
                clear n0_ n1_
                refine start_ (n := 24) (S := fun w' => True) (ds := []) #[false, false, false, false, false, false, false, false, false, false, false, false, false, false, false, false, false, false, false, false, false, false, false, false] (by kernel_rfl) rfl rfl trivial (fun hHeld => ?_); refine with_tabW impl_DhcpBytes.tab6 impl_DhcpBytes.bits6 (fun HT_ HW_ => ?_)
                generalize wc.drew = w24 at BK152 HB hHeld ⊢
                refine pure_ (i := 0) (N := some 29) (v := ?_) (a' := ?_) #[true, false, false, false, false, false, false, false, false, false, false, false, false, false, false, false, false, false, false, false, false, false, false, false] rfl rfl (any_of HT_.out (by kernel_rfl)) (fun _ _ _ h => h) (Or.inl ⟨by rfl, ?_⟩) ?_ ?_
                rotate_left
                · intro w'
                  go_simp
                  with_reducible rfl
                rotate_left
                · simp only [Act.put, List.setIfInBounds_toArray, List.set_cons_zero, List.set_cons_succ, i64_w, i32_w]
                  rfl
                refine pure_ (i := 2) (N := some 31) (v := ?_) (a' := ?_) #[true, false, true, false, false, false, false, false, false, false, false, false, false, false, false, false, false, false, false, false, false, false, false, false] rfl rfl (any_of HT_.out (by kernel_rfl)) (fun _ _ _ h => h) (Or.inl ⟨by rfl, ?_⟩) ?_ ?_
                rotate_left
                · intro w'
                  go_simp
                  with_reducible rfl
                rotate_left
                · simp only [Act.put, List.setIfInBounds_toArray, List.set_cons_zero, List.set_cons_succ, i64_w, i32_w]
                  rfl
                refine pure_ (i := 6) (N := some 35) (v := ?_) (a' := ?_) #[true, false, true, false, false, false, true, false, false, false, false, false, false, false, false, false, false, false, false, false, false, false, false, false] rfl rfl (any_of HT_.out (by kernel_rfl)) (fun _ _ _ h => h) (Or.inl ⟨by rfl, ?_⟩) ?_ ?_
                rotate_left
                · intro w'
                  go_simp
                  with_reducible rfl
                rotate_left
                · simp only [Act.put, List.setIfInBounds_toArray, List.set_cons_zero, List.set_cons_succ, i64_w, i32_w]
                  rfl
                refine pure_ (i := 10) (N := some 39) (v := ?_) (a' := ?_) #[true, false, true, false, false, false, true, false, false, false, true, false, false, false, false, false, false, false, false, false, false, false, false, false] rfl rfl (any_of HT_.out (by kernel_rfl)) (fun _ _ _ h => h) (Or.inl ⟨by rfl, ?_⟩) ?_ ?_
                rotate_left
                · intro w'
                  go_simp
                  with_reducible rfl
                rotate_left
                · simp only [Act.put, List.setIfInBounds_toArray, List.set_cons_zero, List.set_cons_succ, i64_w, i32_w]
                  rfl
                refine pure_ (i := 16) (N := some 45) (v := ?_) (a' := ?_) #[true, false, true, false, false, false, true, false, false, false, true, false, false, false, false, false, true, false, false, false, false, false, false, false] rfl rfl (any_of HT_.out (by kernel_rfl)) (fun _ _ _ h => h) (Or.inl ⟨by rfl, ?_⟩) ?_ ?_
                rotate_left
                · intro w'
                  go_simp
                  with_reducible rfl
                rotate_left
                · simp only [Act.put, List.setIfInBounds_toArray, List.set_cons_zero, List.set_cons_succ, i64_w, i32_w]
                  rfl
                refine inv_at [1, 3, 4, 5, 7, 8, 9, 11, 12, 13, 14, 15, 17, 18, 19, 20, 21, 22, 23] (fun a0_ b a w' => ∃ (v158 : Value) (v161 : Value) (v164 : Value) (v167 : Value) (v170 : Value) (v173 : Value) (v176 : Value) (v179 : Value) (v182 : Value) (v185 : Value) (v188 : Value) (m15_ : Value) (m22_ : Value), a = putSel a0_ b [(1, 30, v158), (3, 32, .int .i64 a0_0), (4, 33, v161), (5, 34, v164), (7, 36, .int .i64 a0_1), (8, 37, v167), (9, 38, v170), (11, 40, .string a0_4), (12, 41, v173), (13, 42, v176), (14, 43, v179), (15, 44, m15_), (17, 46, .int .i64 a0_2), (18, 47, .int .u8 ((a0_2) % 256)), (19, 48, v182), (20, 49, v185), (21, 50, v188), (22, 2, m22_), (23, 3, .int .i64 0)] ∧ (w'.heap[gb152]? = some (.cells #[.int .i64 a0_0, .int .i64 a0_1, .int .i64 a0_2, .bool true, .string a0_4] 46 (0, 0))) ∧ (Below w.heap.size w w') ∧ (b 1 = true → b 20 = false → Kd.V (Kd.int .u8) 5 w' w.heap.size (fun k_ => k_ ≠ gb152) v158 y157) ∧ (b 4 = true → b 20 = false → Kd.V (Kd.int .u8) 5 w' w.heap.size (fun k_ => k_ ≠ gb152) v161 t160) ∧ (b 5 = true → b 20 = false → Kd.V (Kd.int .u8) 5 w' w.heap.size (fun k_ => k_ ≠ gb152) v164 y163) ∧ (b 8 = true → b 20 = false → Kd.V (Kd.int .u8) 5 w' w.heap.size (fun k_ => k_ ≠ gb152) v167 t166) ∧ (b 9 = true → b 20 = false → Kd.V (Kd.int .u8) 5 w' w.heap.size (fun k_ => k_ ≠ gb152) v170 y169) ∧ (b 12 = true → Kd.V (Kd.int .u8) 5 w' w.heap.size (fun k_ => k_ ≠ gb152) v173 y172) ∧ (b 13 = true → b 20 = false → Kd.V (Kd.int .u8) 5 w' w.heap.size (fun k_ => k_ ≠ gb152) v176 y175) ∧ (b 14 = true → b 20 = false → Kd.V (Kd.int .u8) 5 w' w.heap.size (fun k_ => k_ ≠ gb152) v179 y178) ∧ (b 19 = true → b 20 = false → Kd.V (Kd.int .u8) 5 w' w.heap.size (fun k_ => k_ ≠ gb152) v182 y181) ∧ (b 20 = true → Kd.N (Kd.slice 5 (Kd.int .u8)) 22 w' w.heap.size (fun k_ => k_ ≠ gb152) v185 y184) ∧ (b 21 = true → Kd.R (Kd.int .u8) 5 w' w.heap.size (fun _ => True) v188 t187) ∧ (b 14 = true → ∃ g_, (v179 : Value).ownBlock = some g_ ∧ w.heap.size ≤ g_ ∧ g_ ≠ gb152) ∧ (b 15 = true → (m15_ : Value) = v179) ∧ (b 22 = true → (m22_ : Value) = v188)) HT_.out HW_.out (by kernel_rfl) (by kernel_rfl) ?_ ?_ ?_
                · exact ⟨.bool false, .bool false, .bool false, .bool false, .bool false, .bool false, .bool false, .bool false, .bool false, .bool false, .bool false, .bool false, .bool false, by simp only [putSel, Bool.false_eq_true, if_false], BK152.out, HB.out, fun h_ => absurd h_ (by decide), fun h_ => absurd h_ (by decide), fun h_ => absurd h_ (by decide), fun h_ => absurd h_ (by decide), fun h_ => absurd h_ (by decide), fun h_ => absurd h_ (by decide), fun h_ => absurd h_ (by decide), fun h_ => absurd h_ (by decide), fun h_ => absurd h_ (by decide), fun h_ => absurd h_ (by decide), fun h_ => absurd h_ (by decide), fun h_ => absurd h_ (by decide), fun h_ => absurd h_ (by decide), fun h_ => absurd h_ (by decide)⟩
                · skip
                  clear BK152 HB
                  refine steps_cons ?_ ?_
                  · rintro b a w' ⟨v158, v161, v164, v167, v170, v173, v176, v179, v182, v185, v188, m15_, m22_, ha, Q_BK152, Q_HB, Q_HO159, Q_HO162, Q_HO165, Q_HO168, Q_HO171, Q_HO174, Q_HO177, Q_HO180, Q_HO183, Q_HO186, Q_HO189, Q_HM15_, Q_X15_, Q_X22_⟩ hb_ hon hoff
                    refine ⟨_, rfl, fun K hK => ?_⟩
                    have e29 : a.tmps[29]? = some (.int .u8 2) := by rw [ha]; exact (putSel_off rfl).trans rfl
                    replace ha := Aside0.mk ha
                    have BK152 := Aside0.mk Q_BK152
                    have HB := Aside0.mk Q_HB
                    refine Kd.R_lit_step (Kd.int .u8) _ 5 ?hg (N := 30) ?hd (xs := ([2, 1, 6, 0] : List Int)) (inner := [.int .u8 2, .int .u8 1, .int .u8 6, .int .u8 0]) (ok := fun _ => True) (okp := fun _ => True) ?hr ?hp (fun _ hk => hk) trivial (Below.refl _ _) (Nat.le_refl _) (by simp) ?_; (case hd => rfl); (case hg => rfl); (case hr => first | (go_simp; done) | (go_simp; rfl)); (case hp => exact (Reps.one (show Kd.M (Kd.int .u8) _ _ _ 2 [.int .u8 2] from rfl) (Reps.one (show Kd.M (Kd.int .u8) _ _ _ 1 [.int .u8 1] from rfl) (Reps.one (show Kd.M (Kd.int .u8) _ _ _ 6 [.int .u8 6] from rfl) (Reps.one (show Kd.M (Kd.int .u8) _ _ _ 0 [.int .u8 0] from rfl) (Reps.none _ _))))))
                    intro v158 w25 ho26 hb hg_ hnew_
                    clear hg_ hnew_
                    (first | rw [← Ny157.out] at ho26 | (simp only [Int.reduceToNat] at ho26; rw [← Ny157.out] at ho26))
                    have n0_ := Aside0.mk (Kd.R_lower ho26 (below_size (by repeat (first | (with_reducible first | exact HB.out | apply below_alloc | apply pw_below_drewN | apply below_drew1 | refine below_set ?_ GE152.out) | exact HB.out))))
                    have n1_ := Aside0.mk (blk_below (g := gb152) (o := .cells #[.int .i64 a0_0, .int .i64 a0_1, .int .i64 a0_2, .bool true, .string a0_4] 46 (0, 0)) (by (with_reducible repeat (first | refine blk_drewN ?_ _ | refine blk_drew ?_ | refine blk_alloc ?_ _)); exact BK152.out) hb)
                    have n2_ := Aside0.mk (below_step (by repeat (first | (with_reducible first | exact HB.out | apply below_alloc | apply pw_below_drewN | apply below_drew1 | refine below_set ?_ GE152.out) | exact HB.out)) hb)
                    have z_HO162 := fun (h0_ : b 4 = true) (h1_ : b 20 = false) => (show Kd.V (Kd.int .u8) 5 w25 w.heap.size (fun k_ => k_ ≠ gb152) v161 t160 from by first | exact (Kd.V_elder' (by (with_reducible repeat (first | apply Kd.V_alloc | apply Kd.V_drewN | apply Kd.V_drew)); exact (Q_HO162 h0_ h1_)) (Kd.R_base ho26) hb) | exact Kd.V_mono (Kd.V_elder' (by (with_reducible repeat (first | apply Kd.V_alloc | apply Kd.V_drewN | apply Kd.V_drew)); exact (Q_HO162 h0_ h1_)) (Kd.R_base ho26) hb) (fun _ h_ => by first | trivial | exact h_ | exact h_.1))
                    have z_HO165 := fun (h0_ : b 5 = true) (h1_ : b 20 = false) => (show Kd.V (Kd.int .u8) 5 w25 w.heap.size (fun k_ => k_ ≠ gb152) v164 y163 from by first | exact (Kd.V_elder' (by (with_reducible repeat (first | apply Kd.V_alloc | apply Kd.V_drewN | apply Kd.V_drew)); exact (Q_HO165 h0_ h1_)) (Kd.R_base ho26) hb) | exact Kd.V_mono (Kd.V_elder' (by (with_reducible repeat (first | apply Kd.V_alloc | apply Kd.V_drewN | apply Kd.V_drew)); exact (Q_HO165 h0_ h1_)) (Kd.R_base ho26) hb) (fun _ h_ => by first | trivial | exact h_ | exact h_.1))
                    have z_HO168 := fun (h0_ : b 8 = true) (h1_ : b 20 = false) => (show Kd.V (Kd.int .u8) 5 w25 w.heap.size (fun k_ => k_ ≠ gb152) v167 t166 from by first | exact (Kd.V_elder' (by (with_reducible repeat (first | apply Kd.V_alloc | apply Kd.V_drewN | apply Kd.V_drew)); exact (Q_HO168 h0_ h1_)) (Kd.R_base ho26) hb) | exact Kd.V_mono (Kd.V_elder' (by (with_reducible repeat (first | apply Kd.V_alloc | apply Kd.V_drewN | apply Kd.V_drew)); exact (Q_HO168 h0_ h1_)) (Kd.R_base ho26) hb) (fun _ h_ => by first | trivial | exact h_ | exact h_.1))
                    have z_HO171 := fun (h0_ : b 9 = true) (h1_ : b 20 = false) => (show Kd.V (Kd.int .u8) 5 w25 w.heap.size (fun k_ => k_ ≠ gb152) v170 y169 from by first | exact (Kd.V_elder' (by (with_reducible repeat (first | apply Kd.V_alloc | apply Kd.V_drewN | apply Kd.V_drew)); exact (Q_HO171 h0_ h1_)) (Kd.R_base ho26) hb) | exact Kd.V_mono (Kd.V_elder' (by (with_reducible repeat (first | apply Kd.V_alloc | apply Kd.V_drewN | apply Kd.V_drew)); exact (Q_HO171 h0_ h1_)) (Kd.R_base ho26) hb) (fun _ h_ => by first | trivial | exact h_ | exact h_.1))
                    have z_HO174 := fun (h0_ : b 12 = true) => (show Kd.V (Kd.int .u8) 5 w25 w.heap.size (fun k_ => k_ ≠ gb152) v173 y172 from by first | exact (Kd.V_elder' (by (with_reducible repeat (first | apply Kd.V_alloc | apply Kd.V_drewN | apply Kd.V_drew)); exact (Q_HO174 h0_)) (Kd.R_base ho26) hb) | exact Kd.V_mono (Kd.V_elder' (by (with_reducible repeat (first | apply Kd.V_alloc | apply Kd.V_drewN | apply Kd.V_drew)); exact (Q_HO174 h0_)) (Kd.R_base ho26) hb) (fun _ h_ => by first | trivial | exact h_ | exact h_.1))
                    have z_HO177 := fun (h0_ : b 13 = true) (h1_ : b 20 = false) => (show Kd.V (Kd.int .u8) 5 w25 w.heap.size (fun k_ => k_ ≠ gb152) v176 y175 from by first | exact (Kd.V_elder' (by (with_reducible repeat (first | apply Kd.V_alloc | apply Kd.V_drewN | apply Kd.V_drew)); exact (Q_HO177 h0_ h1_)) (Kd.R_base ho26) hb) | exact Kd.V_mono (Kd.V_elder' (by (with_reducible repeat (first | apply Kd.V_alloc | apply Kd.V_drewN | apply Kd.V_drew)); exact (Q_HO177 h0_ h1_)) (Kd.R_base ho26) hb) (fun _ h_ => by first | trivial | exact h_ | exact h_.1))
                    have z_HO180 := fun (h0_ : b 14 = true) (h1_ : b 20 = false) => (show Kd.V (Kd.int .u8) 5 w25 w.heap.size (fun k_ => k_ ≠ gb152) v179 y178 from by first | exact (Kd.V_elder' (by (with_reducible repeat (first | apply Kd.V_alloc | apply Kd.V_drewN | apply Kd.V_drew)); exact (Q_HO180 h0_ h1_)) (Kd.R_base ho26) hb) | exact Kd.V_mono (Kd.V_elder' (by (with_reducible repeat (first | apply Kd.V_alloc | apply Kd.V_drewN | apply Kd.V_drew)); exact (Q_HO180 h0_ h1_)) (Kd.R_base ho26) hb) (fun _ h_ => by first | trivial | exact h_ | exact h_.1))
                    have z_HO183 := fun (h0_ : b 19 = true) (h1_ : b 20 = false) => (show Kd.V (Kd.int .u8) 5 w25 w.heap.size (fun k_ => k_ ≠ gb152) v182 y181 from by first | exact (Kd.V_elder' (by (with_reducible repeat (first | apply Kd.V_alloc | apply Kd.V_drewN | apply Kd.V_drew)); exact (Q_HO183 h0_ h1_)) (Kd.R_base ho26) hb) | exact Kd.V_mono (Kd.V_elder' (by (with_reducible repeat (first | apply Kd.V_alloc | apply Kd.V_drewN | apply Kd.V_drew)); exact (Q_HO183 h0_ h1_)) (Kd.R_base ho26) hb) (fun _ h_ => by first | trivial | exact h_ | exact h_.1))
                    clear BK152
                    clear HB
                    have HO159 := n0_
                    have BK152 := n1_
                    have HB := n2_
                    clear n0_ n1_ n2_
                    clear hb ho26
                    refine hK.out _ _ ⟨v158, v161, v164, v167, v170, v173, v176, v179, v182, v185, v188, m15_, m22_, (by rw [ha.out]; exact putSel_upk 0 hb_ rfl rfl rfl), (by (with_reducible repeat (first | refine blk_drewN ?_ _ | refine blk_drew ?_ | refine blk_alloc ?_ _)); exact BK152.out), (by repeat (first | (with_reducible first | exact HB.out | apply below_alloc | apply pw_below_drewN | apply below_drew1 | refine below_set ?_ GE152.out) | exact HB.out)), fun _ _ => Kd.V_mono (Kd.R_V (base' := w.heap.size) (Kd.R_types ((by (with_reducible repeat (first | apply Kd.R_alloc | apply Kd.R_drewN | apply Kd.R_drew)); exact HO159.out)) BK152.out (by decide))) (fun k_ hk => by first | trivial | exact hk | exact hk.2 | exact hk.1 | exact hk.1.2 | exact hk.1.1 | exact hk.2.1 | exact hk.2.2 | exact hk.2.2.2.2), z_HO162, z_HO165, z_HO168, z_HO171, z_HO174, z_HO177, z_HO180, z_HO183, fun h0_ => absurd ((hoff 20 (by kernel_rfl)).symm.trans h0_) (by decide), fun h0_ => absurd ((hoff 21 (by kernel_rfl)).symm.trans h0_) (by decide), Q_HM15_, Q_X15_, fun h0_ => absurd ((hoff 22 (by kernel_rfl)).symm.trans h0_) (by decide)⟩
                  refine steps_cons ?_ ?_
                  · rintro b a w' ⟨v158, v161, v164, v167, v170, v173, v176, v179, v182, v185, v188, m15_, m22_, ha, Q_BK152, Q_HB, Q_HO159, Q_HO162, Q_HO165, Q_HO168, Q_HO171, Q_HO174, Q_HO177, Q_HO180, Q_HO183, Q_HO186, Q_HO189, Q_HM15_, Q_X15_, Q_X22_⟩ hb_ hon hoff
                    refine ⟨_, rfl, fun K hK => ?_⟩
                    have e31 : a.tmps[31]? = some (.pointer (some ⟨gb152, 0, none⟩)) := by rw [ha]; exact (putSel_off rfl).trans rfl
                    replace ha := Aside0.mk ha
                    have BK152 := Aside0.mk Q_BK152
                    have HB := Aside0.mk Q_HB
                    have hc0_ : w'.cell? ⟨gb152, 0, none⟩ = some (.int .i64 a0_0) := (blk_cell BK152.out 0).trans rfl
                    have hc1_ : w'.cell? ⟨gb152, 1, none⟩ = some (.int .i64 a0_1) := (blk_cell BK152.out 1).trans rfl
                    have hc2_ : w'.cell? ⟨gb152, 2, none⟩ = some (.int .i64 a0_2) := (blk_cell BK152.out 2).trans rfl
                    have hc3_ : w'.cell? ⟨gb152, 3, none⟩ = some (.bool true) := (blk_cell BK152.out 3).trans rfl
                    have hc4_ : w'.cell? ⟨gb152, 4, none⟩ = some (.string a0_4) := (blk_cell BK152.out 4).trans rfl
                    refine value_ (w1 := w') (v := .int .i64 a0_0) (by rfl) rfl ?_ ?_
                    · go_simp
                      (try simp only [i64_w])
                      try rfl
                    refine hK.out _ _ ⟨v158, v161, v164, v167, v170, v173, v176, v179, v182, v185, v188, m15_, m22_, (by rw [ha.out]; exact putSel_upk 1 hb_ rfl rfl rfl), Q_BK152, Q_HB, Q_HO159, fun h0_ _ => absurd ((hoff 4 (by kernel_rfl)).symm.trans h0_) (by decide), Q_HO165, fun h0_ _ => absurd ((hoff 8 (by kernel_rfl)).symm.trans h0_) (by decide), Q_HO171, Q_HO174, Q_HO177, Q_HO180, Q_HO183, fun h0_ => absurd ((hoff 20 (by kernel_rfl)).symm.trans h0_) (by decide), fun h0_ => absurd ((hoff 21 (by kernel_rfl)).symm.trans h0_) (by decide), Q_HM15_, Q_X15_, fun h0_ => absurd ((hoff 22 (by kernel_rfl)).symm.trans h0_) (by decide)⟩
                  refine steps_cons ?_ ?_
                  · rintro b a w' ⟨v158, v161, v164, v167, v170, v173, v176, v179, v182, v185, v188, m15_, m22_, ha, Q_BK152, Q_HB, Q_HO159, Q_HO162, Q_HO165, Q_HO168, Q_HO171, Q_HO174, Q_HO177, Q_HO180, Q_HO183, Q_HO186, Q_HO189, Q_HM15_, Q_X15_, Q_X22_⟩ hb_ hon hoff
                    refine ⟨_, rfl, fun K hK => ?_⟩
                    have e32 : a.tmps[32]? = some (.int .i64 a0_0) := by rw [ha]; exact putSel_on (e := (3, 32, .int .i64 a0_0)) 1 rfl rfl (hon 3 (by kernel_rfl)) rfl
                    replace ha := Aside0.mk ha
                    have BK152 := Aside0.mk Q_BK152
                    have HB := Aside0.mk Q_HB
                    refine goes_ Try.func62 (by kernel_rfl) rfl #[.int .i64 a0_0, .int .i64 4] (by rfl) rfl rfl (by first | (simp only [List.map_toArray, List.map_cons, List.map_nil, Act.eval, Array.getD_eq_getD_getElem?, Option.getD_some, e32]; done) | (simp only [List.map_toArray, List.map_cons, List.map_nil, Act.eval, Array.getD_eq_getD_getElem?, Option.getD_some, e32]; rfl)) ?_
                    with_reducible refine (impl_be.calls kj1 a0_0 4 t160 _ A17.out).mono ?_
                    rintro e w25 ⟨v161, rfl, ho0, hb⟩
                    refine ⟨_, rfl, ?_⟩
                    have n0_ := Aside0.mk (Kd.R_lower ho0 (below_size (by repeat (first | (with_reducible first | exact HB.out | apply below_alloc | apply pw_below_drewN | apply below_drew1 | refine below_set ?_ GE152.out) | exact HB.out))))
                    have n1_ := Aside0.mk (blk_below (g := gb152) (o := .cells #[.int .i64 a0_0, .int .i64 a0_1, .int .i64 a0_2, .bool true, .string a0_4] 46 (0, 0)) (by (with_reducible repeat (first | refine blk_drewN ?_ _ | refine blk_drew ?_ | refine blk_alloc ?_ _)); exact BK152.out) hb)
                    have n2_ := Aside0.mk (below_step (by repeat (first | (with_reducible first | exact HB.out | apply below_alloc | apply pw_below_drewN | apply below_drew1 | refine below_set ?_ GE152.out) | exact HB.out)) hb)
                    have z_HO159 := fun (h0_ : b 1 = true) (h1_ : b 20 = false) => (show Kd.V (Kd.int .u8) 5 w25 w.heap.size (fun k_ => k_ ≠ gb152) v158 y157 from by first | exact (Kd.V_elder' (by (with_reducible repeat (first | apply Kd.V_alloc | apply Kd.V_drewN | apply Kd.V_drew)); exact (Q_HO159 h0_ h1_)) (Kd.R_base ho0) hb) | exact Kd.V_mono (Kd.V_elder' (by (with_reducible repeat (first | apply Kd.V_alloc | apply Kd.V_drewN | apply Kd.V_drew)); exact (Q_HO159 h0_ h1_)) (Kd.R_base ho0) hb) (fun _ h_ => by first | trivial | exact h_ | exact h_.1))
                    have z_HO165 := fun (h0_ : b 5 = true) (h1_ : b 20 = false) => (show Kd.V (Kd.int .u8) 5 w25 w.heap.size (fun k_ => k_ ≠ gb152) v164 y163 from by first | exact (Kd.V_elder' (by (with_reducible repeat (first | apply Kd.V_alloc | apply Kd.V_drewN | apply Kd.V_drew)); exact (Q_HO165 h0_ h1_)) (Kd.R_base ho0) hb) | exact Kd.V_mono (Kd.V_elder' (by (with_reducible repeat (first | apply Kd.V_alloc | apply Kd.V_drewN | apply Kd.V_drew)); exact (Q_HO165 h0_ h1_)) (Kd.R_base ho0) hb) (fun _ h_ => by first | trivial | exact h_ | exact h_.1))
                    have z_HO171 := fun (h0_ : b 9 = true) (h1_ : b 20 = false) => (show Kd.V (Kd.int .u8) 5 w25 w.heap.size (fun k_ => k_ ≠ gb152) v170 y169 from by first | exact (Kd.V_elder' (by (with_reducible repeat (first | apply Kd.V_alloc | apply Kd.V_drewN | apply Kd.V_drew)); exact (Q_HO171 h0_ h1_)) (Kd.R_base ho0) hb) | exact Kd.V_mono (Kd.V_elder' (by (with_reducible repeat (first | apply Kd.V_alloc | apply Kd.V_drewN | apply Kd.V_drew)); exact (Q_HO171 h0_ h1_)) (Kd.R_base ho0) hb) (fun _ h_ => by first | trivial | exact h_ | exact h_.1))
                    have z_HO174 := fun (h0_ : b 12 = true) => (show Kd.V (Kd.int .u8) 5 w25 w.heap.size (fun k_ => k_ ≠ gb152) v173 y172 from by first | exact (Kd.V_elder' (by (with_reducible repeat (first | apply Kd.V_alloc | apply Kd.V_drewN | apply Kd.V_drew)); exact (Q_HO174 h0_)) (Kd.R_base ho0) hb) | exact Kd.V_mono (Kd.V_elder' (by (with_reducible repeat (first | apply Kd.V_alloc | apply Kd.V_drewN | apply Kd.V_drew)); exact (Q_HO174 h0_)) (Kd.R_base ho0) hb) (fun _ h_ => by first | trivial | exact h_ | exact h_.1))
                    have z_HO177 := fun (h0_ : b 13 = true) (h1_ : b 20 = false) => (show Kd.V (Kd.int .u8) 5 w25 w.heap.size (fun k_ => k_ ≠ gb152) v176 y175 from by first | exact (Kd.V_elder' (by (with_reducible repeat (first | apply Kd.V_alloc | apply Kd.V_drewN | apply Kd.V_drew)); exact (Q_HO177 h0_ h1_)) (Kd.R_base ho0) hb) | exact Kd.V_mono (Kd.V_elder' (by (with_reducible repeat (first | apply Kd.V_alloc | apply Kd.V_drewN | apply Kd.V_drew)); exact (Q_HO177 h0_ h1_)) (Kd.R_base ho0) hb) (fun _ h_ => by first | trivial | exact h_ | exact h_.1))
                    have z_HO180 := fun (h0_ : b 14 = true) (h1_ : b 20 = false) => (show Kd.V (Kd.int .u8) 5 w25 w.heap.size (fun k_ => k_ ≠ gb152) v179 y178 from by first | exact (Kd.V_elder' (by (with_reducible repeat (first | apply Kd.V_alloc | apply Kd.V_drewN | apply Kd.V_drew)); exact (Q_HO180 h0_ h1_)) (Kd.R_base ho0) hb) | exact Kd.V_mono (Kd.V_elder' (by (with_reducible repeat (first | apply Kd.V_alloc | apply Kd.V_drewN | apply Kd.V_drew)); exact (Q_HO180 h0_ h1_)) (Kd.R_base ho0) hb) (fun _ h_ => by first | trivial | exact h_ | exact h_.1))
                    have z_HO183 := fun (h0_ : b 19 = true) (h1_ : b 20 = false) => (show Kd.V (Kd.int .u8) 5 w25 w.heap.size (fun k_ => k_ ≠ gb152) v182 y181 from by first | exact (Kd.V_elder' (by (with_reducible repeat (first | apply Kd.V_alloc | apply Kd.V_drewN | apply Kd.V_drew)); exact (Q_HO183 h0_ h1_)) (Kd.R_base ho0) hb) | exact Kd.V_mono (Kd.V_elder' (by (with_reducible repeat (first | apply Kd.V_alloc | apply Kd.V_drewN | apply Kd.V_drew)); exact (Q_HO183 h0_ h1_)) (Kd.R_base ho0) hb) (fun _ h_ => by first | trivial | exact h_ | exact h_.1))
                    clear BK152
                    clear HB
                    have HO162 := n0_
                    have BK152 := n1_
                    have HB := n2_
                    clear n0_ n1_ n2_
                    (try clear hb)
                    (try clear hb2)
                    (try clear hk)
                    (try clear hi)
                    (try clear ho0)
                    refine hK.out _ _ ⟨v158, v161, v164, v167, v170, v173, v176, v179, v182, v185, v188, m15_, m22_, (by rw [ha.out]; exact putSel_upk 2 hb_ rfl rfl rfl), (by (with_reducible repeat (first | refine blk_drewN ?_ _ | refine blk_drew ?_ | refine blk_alloc ?_ _)); exact BK152.out), (by repeat (first | (with_reducible first | exact HB.out | apply below_alloc | apply pw_below_drewN | apply below_drew1 | refine below_set ?_ GE152.out) | exact HB.out)), z_HO159, fun _ _ => Kd.V_mono (Kd.R_V (base' := w.heap.size) (Kd.R_types ((by (with_reducible repeat (first | apply Kd.R_alloc | apply Kd.R_drewN | apply Kd.R_drew)); exact HO162.out)) BK152.out (by decide))) (fun k_ hk => by first | trivial | exact hk | exact hk.2 | exact hk.1 | exact hk.1.2 | exact hk.1.1 | exact hk.2.1 | exact hk.2.2 | exact hk.2.2.2.2), z_HO165, fun h0_ _ => absurd ((hoff 8 (by kernel_rfl)).symm.trans h0_) (by decide), z_HO171, z_HO174, z_HO177, z_HO180, z_HO183, fun h0_ => absurd ((hoff 20 (by kernel_rfl)).symm.trans h0_) (by decide), fun h0_ => absurd ((hoff 21 (by kernel_rfl)).symm.trans h0_) (by decide), Q_HM15_, Q_X15_, fun h0_ => absurd ((hoff 22 (by kernel_rfl)).symm.trans h0_) (by decide)⟩
                  refine steps_cons ?_ ?_
                  · rintro b a w' ⟨v158, v161, v164, v167, v170, v173, v176, v179, v182, v185, v188, m15_, m22_, ha, Q_BK152, Q_HB, Q_HO159, Q_HO162, Q_HO165, Q_HO168, Q_HO171, Q_HO174, Q_HO177, Q_HO180, Q_HO183, Q_HO186, Q_HO189, Q_HM15_, Q_X15_, Q_X22_⟩ hb_ hon hoff
                    refine ⟨_, rfl, fun K hK => ?_⟩
                    replace ha := Aside0.mk ha
                    have BK152 := Aside0.mk Q_BK152
                    have HB := Aside0.mk Q_HB
                    refine Kd.R_make_step (Kd.int .u8) _ 5 (by rfl) (N := 34) rfl 22 _ _ rfl 8 rfl rfl Try.underlying22 (.int .u8 0) 1 info5 rfl (by decide) (by omega) 0 (ok := fun _ => True) (okp := fun _ => True) rfl (fun _ hk => hk) trivial (by omega) (by omega) (Below.refl _ _) (Nat.le_refl _) ?_
                    intro v164 w25 ho26 hb hg_ hnew_
                    clear hg_ hnew_
                    (first | rw [← Ny163.out] at ho26 | (simp only [Int.reduceToNat] at ho26; rw [← Ny163.out] at ho26))
                    have n0_ := Aside0.mk (Kd.R_lower ho26 (below_size (by repeat (first | (with_reducible first | exact HB.out | apply below_alloc | apply pw_below_drewN | apply below_drew1 | refine below_set ?_ GE152.out) | exact HB.out))))
                    have n1_ := Aside0.mk (blk_below (g := gb152) (o := .cells #[.int .i64 a0_0, .int .i64 a0_1, .int .i64 a0_2, .bool true, .string a0_4] 46 (0, 0)) (by (with_reducible repeat (first | refine blk_drewN ?_ _ | refine blk_drew ?_ | refine blk_alloc ?_ _)); exact BK152.out) hb)
                    have n2_ := Aside0.mk (below_step (by repeat (first | (with_reducible first | exact HB.out | apply below_alloc | apply pw_below_drewN | apply below_drew1 | refine below_set ?_ GE152.out) | exact HB.out)) hb)
                    have z_HO159 := fun (h0_ : b 1 = true) (h1_ : b 20 = false) => (show Kd.V (Kd.int .u8) 5 w25 w.heap.size (fun k_ => k_ ≠ gb152) v158 y157 from by first | exact (Kd.V_elder' (by (with_reducible repeat (first | apply Kd.V_alloc | apply Kd.V_drewN | apply Kd.V_drew)); exact (Q_HO159 h0_ h1_)) (Kd.R_base ho26) hb) | exact Kd.V_mono (Kd.V_elder' (by (with_reducible repeat (first | apply Kd.V_alloc | apply Kd.V_drewN | apply Kd.V_drew)); exact (Q_HO159 h0_ h1_)) (Kd.R_base ho26) hb) (fun _ h_ => by first | trivial | exact h_ | exact h_.1))
                    have z_HO162 := fun (h0_ : b 4 = true) (h1_ : b 20 = false) => (show Kd.V (Kd.int .u8) 5 w25 w.heap.size (fun k_ => k_ ≠ gb152) v161 t160 from by first | exact (Kd.V_elder' (by (with_reducible repeat (first | apply Kd.V_alloc | apply Kd.V_drewN | apply Kd.V_drew)); exact (Q_HO162 h0_ h1_)) (Kd.R_base ho26) hb) | exact Kd.V_mono (Kd.V_elder' (by (with_reducible repeat (first | apply Kd.V_alloc | apply Kd.V_drewN | apply Kd.V_drew)); exact (Q_HO162 h0_ h1_)) (Kd.R_base ho26) hb) (fun _ h_ => by first | trivial | exact h_ | exact h_.1))
                    have z_HO168 := fun (h0_ : b 8 = true) (h1_ : b 20 = false) => (show Kd.V (Kd.int .u8) 5 w25 w.heap.size (fun k_ => k_ ≠ gb152) v167 t166 from by first | exact (Kd.V_elder' (by (with_reducible repeat (first | apply Kd.V_alloc | apply Kd.V_drewN | apply Kd.V_drew)); exact (Q_HO168 h0_ h1_)) (Kd.R_base ho26) hb) | exact Kd.V_mono (Kd.V_elder' (by (with_reducible repeat (first | apply Kd.V_alloc | apply Kd.V_drewN | apply Kd.V_drew)); exact (Q_HO168 h0_ h1_)) (Kd.R_base ho26) hb) (fun _ h_ => by first | trivial | exact h_ | exact h_.1))
                    have z_HO171 := fun (h0_ : b 9 = true) (h1_ : b 20 = false) => (show Kd.V (Kd.int .u8) 5 w25 w.heap.size (fun k_ => k_ ≠ gb152) v170 y169 from by first | exact (Kd.V_elder' (by (with_reducible repeat (first | apply Kd.V_alloc | apply Kd.V_drewN | apply Kd.V_drew)); exact (Q_HO171 h0_ h1_)) (Kd.R_base ho26) hb) | exact Kd.V_mono (Kd.V_elder' (by (with_reducible repeat (first | apply Kd.V_alloc | apply Kd.V_drewN | apply Kd.V_drew)); exact (Q_HO171 h0_ h1_)) (Kd.R_base ho26) hb) (fun _ h_ => by first | trivial | exact h_ | exact h_.1))
                    have z_HO174 := fun (h0_ : b 12 = true) => (show Kd.V (Kd.int .u8) 5 w25 w.heap.size (fun k_ => k_ ≠ gb152) v173 y172 from by first | exact (Kd.V_elder' (by (with_reducible repeat (first | apply Kd.V_alloc | apply Kd.V_drewN | apply Kd.V_drew)); exact (Q_HO174 h0_)) (Kd.R_base ho26) hb) | exact Kd.V_mono (Kd.V_elder' (by (with_reducible repeat (first | apply Kd.V_alloc | apply Kd.V_drewN | apply Kd.V_drew)); exact (Q_HO174 h0_)) (Kd.R_base ho26) hb) (fun _ h_ => by first | trivial | exact h_ | exact h_.1))
                    have z_HO177 := fun (h0_ : b 13 = true) (h1_ : b 20 = false) => (show Kd.V (Kd.int .u8) 5 w25 w.heap.size (fun k_ => k_ ≠ gb152) v176 y175 from by first | exact (Kd.V_elder' (by (with_reducible repeat (first | apply Kd.V_alloc | apply Kd.V_drewN | apply Kd.V_drew)); exact (Q_HO177 h0_ h1_)) (Kd.R_base ho26) hb) | exact Kd.V_mono (Kd.V_elder' (by (with_reducible repeat (first | apply Kd.V_alloc | apply Kd.V_drewN | apply Kd.V_drew)); exact (Q_HO177 h0_ h1_)) (Kd.R_base ho26) hb) (fun _ h_ => by first | trivial | exact h_ | exact h_.1))
                    have z_HO180 := fun (h0_ : b 14 = true) (h1_ : b 20 = false) => (show Kd.V (Kd.int .u8) 5 w25 w.heap.size (fun k_ => k_ ≠ gb152) v179 y178 from by first | exact (Kd.V_elder' (by (with_reducible repeat (first | apply Kd.V_alloc | apply Kd.V_drewN | apply Kd.V_drew)); exact (Q_HO180 h0_ h1_)) (Kd.R_base ho26) hb) | exact Kd.V_mono (Kd.V_elder' (by (with_reducible repeat (first | apply Kd.V_alloc | apply Kd.V_drewN | apply Kd.V_drew)); exact (Q_HO180 h0_ h1_)) (Kd.R_base ho26) hb) (fun _ h_ => by first | trivial | exact h_ | exact h_.1))
                    have z_HO183 := fun (h0_ : b 19 = true) (h1_ : b 20 = false) => (show Kd.V (Kd.int .u8) 5 w25 w.heap.size (fun k_ => k_ ≠ gb152) v182 y181 from by first | exact (Kd.V_elder' (by (with_reducible repeat (first | apply Kd.V_alloc | apply Kd.V_drewN | apply Kd.V_drew)); exact (Q_HO183 h0_ h1_)) (Kd.R_base ho26) hb) | exact Kd.V_mono (Kd.V_elder' (by (with_reducible repeat (first | apply Kd.V_alloc | apply Kd.V_drewN | apply Kd.V_drew)); exact (Q_HO183 h0_ h1_)) (Kd.R_base ho26) hb) (fun _ h_ => by first | trivial | exact h_ | exact h_.1))
                    clear BK152
                    clear HB
                    have HO165 := n0_
                    have BK152 := n1_
                    have HB := n2_
                    clear n0_ n1_ n2_
                    clear hb ho26
                    refine hK.out _ _ ⟨v158, v161, v164, v167, v170, v173, v176, v179, v182, v185, v188, m15_, m22_, (by rw [ha.out]; exact putSel_upk 3 hb_ rfl rfl rfl), (by (with_reducible repeat (first | refine blk_drewN ?_ _ | refine blk_drew ?_ | refine blk_alloc ?_ _)); exact BK152.out), (by repeat (first | (with_reducible first | exact HB.out | apply below_alloc | apply pw_below_drewN | apply below_drew1 | refine below_set ?_ GE152.out) | exact HB.out)), z_HO159, z_HO162, fun _ _ => Kd.V_mono (Kd.R_V (base' := w.heap.size) (Kd.R_types ((by (with_reducible repeat (first | apply Kd.R_alloc | apply Kd.R_drewN | apply Kd.R_drew)); exact HO165.out)) BK152.out (by decide))) (fun k_ hk => by first | trivial | exact hk | exact hk.2 | exact hk.1 | exact hk.1.2 | exact hk.1.1 | exact hk.2.1 | exact hk.2.2 | exact hk.2.2.2.2), z_HO168, z_HO171, z_HO174, z_HO177, z_HO180, z_HO183, fun h0_ => absurd ((hoff 20 (by kernel_rfl)).symm.trans h0_) (by decide), fun h0_ => absurd ((hoff 21 (by kernel_rfl)).symm.trans h0_) (by decide), Q_HM15_, Q_X15_, fun h0_ => absurd ((hoff 22 (by kernel_rfl)).symm.trans h0_) (by decide)⟩
                  refine steps_cons ?_ ?_
                  · rintro b a w' ⟨v158, v161, v164, v167, v170, v173, v176, v179, v182, v185, v188, m15_, m22_, ha, Q_BK152, Q_HB, Q_HO159, Q_HO162, Q_HO165, Q_HO168, Q_HO171, Q_HO174, Q_HO177, Q_HO180, Q_HO183, Q_HO186, Q_HO189, Q_HM15_, Q_X15_, Q_X22_⟩ hb_ hon hoff
                    refine ⟨_, rfl, fun K hK => ?_⟩
                    have e35 : a.tmps[35]? = some (.pointer (some ⟨gb152, 1, none⟩)) := by rw [ha]; exact (putSel_off rfl).trans rfl
                    replace ha := Aside0.mk ha
                    have BK152 := Aside0.mk Q_BK152
                    have HB := Aside0.mk Q_HB
                    have hc0_ : w'.cell? ⟨gb152, 0, none⟩ = some (.int .i64 a0_0) := (blk_cell BK152.out 0).trans rfl
                    have hc1_ : w'.cell? ⟨gb152, 1, none⟩ = some (.int .i64 a0_1) := (blk_cell BK152.out 1).trans rfl
                    have hc2_ : w'.cell? ⟨gb152, 2, none⟩ = some (.int .i64 a0_2) := (blk_cell BK152.out 2).trans rfl
                    have hc3_ : w'.cell? ⟨gb152, 3, none⟩ = some (.bool true) := (blk_cell BK152.out 3).trans rfl
                    have hc4_ : w'.cell? ⟨gb152, 4, none⟩ = some (.string a0_4) := (blk_cell BK152.out 4).trans rfl
                    refine value_ (w1 := w') (v := .int .i64 a0_1) (by rfl) rfl ?_ ?_
                    · go_simp
                      (try simp only [i64_w])
                      try rfl
                    refine hK.out _ _ ⟨v158, v161, v164, v167, v170, v173, v176, v179, v182, v185, v188, m15_, m22_, (by rw [ha.out]; exact putSel_upk 4 hb_ rfl rfl rfl), Q_BK152, Q_HB, Q_HO159, Q_HO162, Q_HO165, fun h0_ _ => absurd ((hoff 8 (by kernel_rfl)).symm.trans h0_) (by decide), Q_HO171, Q_HO174, Q_HO177, Q_HO180, Q_HO183, fun h0_ => absurd ((hoff 20 (by kernel_rfl)).symm.trans h0_) (by decide), fun h0_ => absurd ((hoff 21 (by kernel_rfl)).symm.trans h0_) (by decide), Q_HM15_, Q_X15_, fun h0_ => absurd ((hoff 22 (by kernel_rfl)).symm.trans h0_) (by decide)⟩
                  refine steps_cons ?_ ?_
                  · rintro b a w' ⟨v158, v161, v164, v167, v170, v173, v176, v179, v182, v185, v188, m15_, m22_, ha, Q_BK152, Q_HB, Q_HO159, Q_HO162, Q_HO165, Q_HO168, Q_HO171, Q_HO174, Q_HO177, Q_HO180, Q_HO183, Q_HO186, Q_HO189, Q_HM15_, Q_X15_, Q_X22_⟩ hb_ hon hoff
                    refine ⟨_, rfl, fun K hK => ?_⟩
                    have e36 : a.tmps[36]? = some (.int .i64 a0_1) := by rw [ha]; exact putSel_on (e := (7, 36, .int .i64 a0_1)) 4 rfl rfl (hon 7 (by kernel_rfl)) rfl
                    replace ha := Aside0.mk ha
                    have BK152 := Aside0.mk Q_BK152
                    have HB := Aside0.mk Q_HB
                    have HO162 := Aside0.mk (Q_HO162 (hon 4 (by kernel_rfl)) (hoff 20 (by kernel_rfl)))
                    refine goes_ Try.func62 (by kernel_rfl) rfl #[.int .i64 a0_1, .int .i64 4] (by rfl) rfl rfl (by first | (simp only [List.map_toArray, List.map_cons, List.map_nil, Act.eval, Array.getD_eq_getD_getElem?, Option.getD_some, e36]; done) | (simp only [List.map_toArray, List.map_cons, List.map_nil, Act.eval, Array.getD_eq_getD_getElem?, Option.getD_some, e36]; rfl)) ?_
                    with_reducible refine (impl_be.calls kj1 a0_1 4 t166 _ A19.out).mono ?_
                    rintro e w27 ⟨v167, rfl, ho0, hb⟩
                    refine ⟨_, rfl, ?_⟩
                    have n0_ := Aside0.mk (Kd.V_elder' (by (with_reducible repeat (first | apply Kd.V_alloc | apply Kd.V_drewN | apply Kd.V_drew)); exact HO162.out) (Kd.R_base ho0) hb)
                    have n1_ := Aside0.mk (Kd.R_lower ho0 (below_size (by repeat (first | (with_reducible first | exact HB.out | apply below_alloc | apply pw_below_drewN | apply below_drew1 | refine below_set ?_ GE152.out) | exact HB.out))))
                    have n2_ := Aside0.mk (blk_below (g := gb152) (o := .cells #[.int .i64 a0_0, .int .i64 a0_1, .int .i64 a0_2, .bool true, .string a0_4] 46 (0, 0)) (by (with_reducible repeat (first | refine blk_drewN ?_ _ | refine blk_drew ?_ | refine blk_alloc ?_ _)); exact BK152.out) hb)
                    have n3_ := Aside0.mk (below_step (by repeat (first | (with_reducible first | exact HB.out | apply below_alloc | apply pw_below_drewN | apply below_drew1 | refine below_set ?_ GE152.out) | exact HB.out)) hb)
                    have z_HO159 := fun (h0_ : b 1 = true) (h1_ : b 20 = false) => (show Kd.V (Kd.int .u8) 5 w27 w.heap.size (fun k_ => k_ ≠ gb152) v158 y157 from by first | exact (Kd.V_elder' (by (with_reducible repeat (first | apply Kd.V_alloc | apply Kd.V_drewN | apply Kd.V_drew)); exact (Q_HO159 h0_ h1_)) (Kd.R_base ho0) hb) | exact Kd.V_mono (Kd.V_elder' (by (with_reducible repeat (first | apply Kd.V_alloc | apply Kd.V_drewN | apply Kd.V_drew)); exact (Q_HO159 h0_ h1_)) (Kd.R_base ho0) hb) (fun _ h_ => by first | trivial | exact h_ | exact h_.1))
                    have z_HO165 := fun (h0_ : b 5 = true) (h1_ : b 20 = false) => (show Kd.V (Kd.int .u8) 5 w27 w.heap.size (fun k_ => k_ ≠ gb152) v164 y163 from by first | exact (Kd.V_elder' (by (with_reducible repeat (first | apply Kd.V_alloc | apply Kd.V_drewN | apply Kd.V_drew)); exact (Q_HO165 h0_ h1_)) (Kd.R_base ho0) hb) | exact Kd.V_mono (Kd.V_elder' (by (with_reducible repeat (first | apply Kd.V_alloc | apply Kd.V_drewN | apply Kd.V_drew)); exact (Q_HO165 h0_ h1_)) (Kd.R_base ho0) hb) (fun _ h_ => by first | trivial | exact h_ | exact h_.1))
                    have z_HO171 := fun (h0_ : b 9 = true) (h1_ : b 20 = false) => (show Kd.V (Kd.int .u8) 5 w27 w.heap.size (fun k_ => k_ ≠ gb152) v170 y169 from by first | exact (Kd.V_elder' (by (with_reducible repeat (first | apply Kd.V_alloc | apply Kd.V_drewN | apply Kd.V_drew)); exact (Q_HO171 h0_ h1_)) (Kd.R_base ho0) hb) | exact Kd.V_mono (Kd.V_elder' (by (with_reducible repeat (first | apply Kd.V_alloc | apply Kd.V_drewN | apply Kd.V_drew)); exact (Q_HO171 h0_ h1_)) (Kd.R_base ho0) hb) (fun _ h_ => by first | trivial | exact h_ | exact h_.1))
                    have z_HO174 := fun (h0_ : b 12 = true) => (show Kd.V (Kd.int .u8) 5 w27 w.heap.size (fun k_ => k_ ≠ gb152) v173 y172 from by first | exact (Kd.V_elder' (by (with_reducible repeat (first | apply Kd.V_alloc | apply Kd.V_drewN | apply Kd.V_drew)); exact (Q_HO174 h0_)) (Kd.R_base ho0) hb) | exact Kd.V_mono (Kd.V_elder' (by (with_reducible repeat (first | apply Kd.V_alloc | apply Kd.V_drewN | apply Kd.V_drew)); exact (Q_HO174 h0_)) (Kd.R_base ho0) hb) (fun _ h_ => by first | trivial | exact h_ | exact h_.1))
                    have z_HO177 := fun (h0_ : b 13 = true) (h1_ : b 20 = false) => (show Kd.V (Kd.int .u8) 5 w27 w.heap.size (fun k_ => k_ ≠ gb152) v176 y175 from by first | exact (Kd.V_elder' (by (with_reducible repeat (first | apply Kd.V_alloc | apply Kd.V_drewN | apply Kd.V_drew)); exact (Q_HO177 h0_ h1_)) (Kd.R_base ho0) hb) | exact Kd.V_mono (Kd.V_elder' (by (with_reducible repeat (first | apply Kd.V_alloc | apply Kd.V_drewN | apply Kd.V_drew)); exact (Q_HO177 h0_ h1_)) (Kd.R_base ho0) hb) (fun _ h_ => by first | trivial | exact h_ | exact h_.1))
                    have z_HO180 := fun (h0_ : b 14 = true) (h1_ : b 20 = false) => (show Kd.V (Kd.int .u8) 5 w27 w.heap.size (fun k_ => k_ ≠ gb152) v179 y178 from by first | exact (Kd.V_elder' (by (with_reducible repeat (first | apply Kd.V_alloc | apply Kd.V_drewN | apply Kd.V_drew)); exact (Q_HO180 h0_ h1_)) (Kd.R_base ho0) hb) | exact Kd.V_mono (Kd.V_elder' (by (with_reducible repeat (first | apply Kd.V_alloc | apply Kd.V_drewN | apply Kd.V_drew)); exact (Q_HO180 h0_ h1_)) (Kd.R_base ho0) hb) (fun _ h_ => by first | trivial | exact h_ | exact h_.1))
                    have z_HO183 := fun (h0_ : b 19 = true) (h1_ : b 20 = false) => (show Kd.V (Kd.int .u8) 5 w27 w.heap.size (fun k_ => k_ ≠ gb152) v182 y181 from by first | exact (Kd.V_elder' (by (with_reducible repeat (first | apply Kd.V_alloc | apply Kd.V_drewN | apply Kd.V_drew)); exact (Q_HO183 h0_ h1_)) (Kd.R_base ho0) hb) | exact Kd.V_mono (Kd.V_elder' (by (with_reducible repeat (first | apply Kd.V_alloc | apply Kd.V_drewN | apply Kd.V_drew)); exact (Q_HO183 h0_ h1_)) (Kd.R_base ho0) hb) (fun _ h_ => by first | trivial | exact h_ | exact h_.1))
                    clear HO162
                    clear BK152
                    clear HB
                    have HO162 := n0_
                    have HO168 := n1_
                    have BK152 := n2_
                    have HB := n3_
                    clear n0_ n1_ n2_ n3_
                    (try clear hb)
                    (try clear hb2)
                    (try clear hk)
                    (try clear hi)
                    (try clear ho0)
                    refine hK.out _ _ ⟨v158, v161, v164, v167, v170, v173, v176, v179, v182, v185, v188, m15_, m22_, (by rw [ha.out]; exact putSel_upk 5 hb_ rfl rfl rfl), (by (with_reducible repeat (first | refine blk_drewN ?_ _ | refine blk_drew ?_ | refine blk_alloc ?_ _)); exact BK152.out), (by repeat (first | (with_reducible first | exact HB.out | apply below_alloc | apply pw_below_drewN | apply below_drew1 | refine below_set ?_ GE152.out) | exact HB.out)), z_HO159, fun _ _ => (by (with_reducible repeat (first | apply Kd.V_alloc | apply Kd.V_drewN | apply Kd.V_drew)); exact Kd.V_mono HO162.out (fun _ hk => by first | exact hk.2 | exact hk.2 | exact hk.1 | exact hk | exact hk.1.2 | exact hk.1.1 | exact hk.2.1 | exact hk.2.2)), z_HO165, fun _ _ => Kd.V_mono (Kd.R_V (base' := w.heap.size) (Kd.R_types ((by (with_reducible repeat (first | apply Kd.R_alloc | apply Kd.R_drewN | apply Kd.R_drew)); exact Kd.R_mono HO168.out (fun _ hk => by first | exact hk.2 | exact hk.2 | exact hk.1 | exact hk | exact hk.1.2 | exact hk.1.1 | exact hk.2.1 | exact hk.2.2))) BK152.out (by decide))) (fun k_ hk => by first | trivial | exact hk | exact hk.2 | exact hk.1 | exact hk.1.2 | exact hk.1.1 | exact hk.2.1 | exact hk.2.2 | exact hk.2.2.2.2), z_HO171, z_HO174, z_HO177, z_HO180, z_HO183, fun h0_ => absurd ((hoff 20 (by kernel_rfl)).symm.trans h0_) (by decide), fun h0_ => absurd ((hoff 21 (by kernel_rfl)).symm.trans h0_) (by decide), Q_HM15_, Q_X15_, fun h0_ => absurd ((hoff 22 (by kernel_rfl)).symm.trans h0_) (by decide)⟩
                  refine steps_cons ?_ ?_
                  · rintro b a w' ⟨v158, v161, v164, v167, v170, v173, v176, v179, v182, v185, v188, m15_, m22_, ha, Q_BK152, Q_HB, Q_HO159, Q_HO162, Q_HO165, Q_HO168, Q_HO171, Q_HO174, Q_HO177, Q_HO180, Q_HO183, Q_HO186, Q_HO189, Q_HM15_, Q_X15_, Q_X22_⟩ hb_ hon hoff
                    refine ⟨_, rfl, fun K hK => ?_⟩
                    replace ha := Aside0.mk ha
                    have BK152 := Aside0.mk Q_BK152
                    have HB := Aside0.mk Q_HB
                    refine Kd.R_make_step (Kd.int .u8) _ 5 (by rfl) (N := 38) rfl 22 _ _ rfl 8 rfl rfl Try.underlying22 (.int .u8 0) 1 info5 rfl (by decide) (by omega) 0 (ok := fun _ => True) (okp := fun _ => True) rfl (fun _ hk => hk) trivial (by omega) (by omega) (Below.refl _ _) (Nat.le_refl _) ?_
                    intro v170 w25 ho26 hb hg_ hnew_
                    clear hg_ hnew_
                    (first | rw [← Ny169.out] at ho26 | (simp only [Int.reduceToNat] at ho26; rw [← Ny169.out] at ho26))
                    have n0_ := Aside0.mk (Kd.R_lower ho26 (below_size (by repeat (first | (with_reducible first | exact HB.out | apply below_alloc | apply pw_below_drewN | apply below_drew1 | refine below_set ?_ GE152.out) | exact HB.out))))
                    have n1_ := Aside0.mk (blk_below (g := gb152) (o := .cells #[.int .i64 a0_0, .int .i64 a0_1, .int .i64 a0_2, .bool true, .string a0_4] 46 (0, 0)) (by (with_reducible repeat (first | refine blk_drewN ?_ _ | refine blk_drew ?_ | refine blk_alloc ?_ _)); exact BK152.out) hb)
                    have n2_ := Aside0.mk (below_step (by repeat (first | (with_reducible first | exact HB.out | apply below_alloc | apply pw_below_drewN | apply below_drew1 | refine below_set ?_ GE152.out) | exact HB.out)) hb)
                    have z_HO159 := fun (h0_ : b 1 = true) (h1_ : b 20 = false) => (show Kd.V (Kd.int .u8) 5 w25 w.heap.size (fun k_ => k_ ≠ gb152) v158 y157 from by first | exact (Kd.V_elder' (by (with_reducible repeat (first | apply Kd.V_alloc | apply Kd.V_drewN | apply Kd.V_drew)); exact (Q_HO159 h0_ h1_)) (Kd.R_base ho26) hb) | exact Kd.V_mono (Kd.V_elder' (by (with_reducible repeat (first | apply Kd.V_alloc | apply Kd.V_drewN | apply Kd.V_drew)); exact (Q_HO159 h0_ h1_)) (Kd.R_base ho26) hb) (fun _ h_ => by first | trivial | exact h_ | exact h_.1))
                    have z_HO162 := fun (h0_ : b 4 = true) (h1_ : b 20 = false) => (show Kd.V (Kd.int .u8) 5 w25 w.heap.size (fun k_ => k_ ≠ gb152) v161 t160 from by first | exact (Kd.V_elder' (by (with_reducible repeat (first | apply Kd.V_alloc | apply Kd.V_drewN | apply Kd.V_drew)); exact (Q_HO162 h0_ h1_)) (Kd.R_base ho26) hb) | exact Kd.V_mono (Kd.V_elder' (by (with_reducible repeat (first | apply Kd.V_alloc | apply Kd.V_drewN | apply Kd.V_drew)); exact (Q_HO162 h0_ h1_)) (Kd.R_base ho26) hb) (fun _ h_ => by first | trivial | exact h_ | exact h_.1))
                    have z_HO165 := fun (h0_ : b 5 = true) (h1_ : b 20 = false) => (show Kd.V (Kd.int .u8) 5 w25 w.heap.size (fun k_ => k_ ≠ gb152) v164 y163 from by first | exact (Kd.V_elder' (by (with_reducible repeat (first | apply Kd.V_alloc | apply Kd.V_drewN | apply Kd.V_drew)); exact (Q_HO165 h0_ h1_)) (Kd.R_base ho26) hb) | exact Kd.V_mono (Kd.V_elder' (by (with_reducible repeat (first | apply Kd.V_alloc | apply Kd.V_drewN | apply Kd.V_drew)); exact (Q_HO165 h0_ h1_)) (Kd.R_base ho26) hb) (fun _ h_ => by first | trivial | exact h_ | exact h_.1))
                    have z_HO168 := fun (h0_ : b 8 = true) (h1_ : b 20 = false) => (show Kd.V (Kd.int .u8) 5 w25 w.heap.size (fun k_ => k_ ≠ gb152) v167 t166 from by first | exact (Kd.V_elder' (by (with_reducible repeat (first | apply Kd.V_alloc | apply Kd.V_drewN | apply Kd.V_drew)); exact (Q_HO168 h0_ h1_)) (Kd.R_base ho26) hb) | exact Kd.V_mono (Kd.V_elder' (by (with_reducible repeat (first | apply Kd.V_alloc | apply Kd.V_drewN | apply Kd.V_drew)); exact (Q_HO168 h0_ h1_)) (Kd.R_base ho26) hb) (fun _ h_ => by first | trivial | exact h_ | exact h_.1))
                    have z_HO174 := fun (h0_ : b 12 = true) => (show Kd.V (Kd.int .u8) 5 w25 w.heap.size (fun k_ => k_ ≠ gb152) v173 y172 from by first | exact (Kd.V_elder' (by (with_reducible repeat (first | apply Kd.V_alloc | apply Kd.V_drewN | apply Kd.V_drew)); exact (Q_HO174 h0_)) (Kd.R_base ho26) hb) | exact Kd.V_mono (Kd.V_elder' (by (with_reducible repeat (first | apply Kd.V_alloc | apply Kd.V_drewN | apply Kd.V_drew)); exact (Q_HO174 h0_)) (Kd.R_base ho26) hb) (fun _ h_ => by first | trivial | exact h_ | exact h_.1))
                    have z_HO177 := fun (h0_ : b 13 = true) (h1_ : b 20 = false) => (show Kd.V (Kd.int .u8) 5 w25 w.heap.size (fun k_ => k_ ≠ gb152) v176 y175 from by first | exact (Kd.V_elder' (by (with_reducible repeat (first | apply Kd.V_alloc | apply Kd.V_drewN | apply Kd.V_drew)); exact (Q_HO177 h0_ h1_)) (Kd.R_base ho26) hb) | exact Kd.V_mono (Kd.V_elder' (by (with_reducible repeat (first | apply Kd.V_alloc | apply Kd.V_drewN | apply Kd.V_drew)); exact (Q_HO177 h0_ h1_)) (Kd.R_base ho26) hb) (fun _ h_ => by first | trivial | exact h_ | exact h_.1))
                    have z_HO180 := fun (h0_ : b 14 = true) (h1_ : b 20 = false) => (show Kd.V (Kd.int .u8) 5 w25 w.heap.size (fun k_ => k_ ≠ gb152) v179 y178 from by first | exact (Kd.V_elder' (by (with_reducible repeat (first | apply Kd.V_alloc | apply Kd.V_drewN | apply Kd.V_drew)); exact (Q_HO180 h0_ h1_)) (Kd.R_base ho26) hb) | exact Kd.V_mono (Kd.V_elder' (by (with_reducible repeat (first | apply Kd.V_alloc | apply Kd.V_drewN | apply Kd.V_drew)); exact (Q_HO180 h0_ h1_)) (Kd.R_base ho26) hb) (fun _ h_ => by first | trivial | exact h_ | exact h_.1))
                    have z_HO183 := fun (h0_ : b 19 = true) (h1_ : b 20 = false) => (show Kd.V (Kd.int .u8) 5 w25 w.heap.size (fun k_ => k_ ≠ gb152) v182 y181 from by first | exact (Kd.V_elder' (by (with_reducible repeat (first | apply Kd.V_alloc | apply Kd.V_drewN | apply Kd.V_drew)); exact (Q_HO183 h0_ h1_)) (Kd.R_base ho26) hb) | exact Kd.V_mono (Kd.V_elder' (by (with_reducible repeat (first | apply Kd.V_alloc | apply Kd.V_drewN | apply Kd.V_drew)); exact (Q_HO183 h0_ h1_)) (Kd.R_base ho26) hb) (fun _ h_ => by first | trivial | exact h_ | exact h_.1))
                    clear BK152
                    clear HB
                    have HO171 := n0_
                    have BK152 := n1_
                    have HB := n2_
                    clear n0_ n1_ n2_
                    clear hb ho26
                    refine hK.out _ _ ⟨v158, v161, v164, v167, v170, v173, v176, v179, v182, v185, v188, m15_, m22_, (by rw [ha.out]; exact putSel_upk 6 hb_ rfl rfl rfl), (by (with_reducible repeat (first | refine blk_drewN ?_ _ | refine blk_drew ?_ | refine blk_alloc ?_ _)); exact BK152.out), (by repeat (first | (with_reducible first | exact HB.out | apply below_alloc | apply pw_below_drewN | apply below_drew1 | refine below_set ?_ GE152.out) | exact HB.out)), z_HO159, z_HO162, z_HO165, z_HO168, fun _ _ => Kd.V_mono (Kd.R_V (base' := w.heap.size) (Kd.R_types ((by (with_reducible repeat (first | apply Kd.R_alloc | apply Kd.R_drewN | apply Kd.R_drew)); exact HO171.out)) BK152.out (by decide))) (fun k_ hk => by first | trivial | exact hk | exact hk.2 | exact hk.1 | exact hk.1.2 | exact hk.1.1 | exact hk.2.1 | exact hk.2.2 | exact hk.2.2.2.2), z_HO174, z_HO177, z_HO180, z_HO183, fun h0_ => absurd ((hoff 20 (by kernel_rfl)).symm.trans h0_) (by decide), fun h0_ => absurd ((hoff 21 (by kernel_rfl)).symm.trans h0_) (by decide), Q_HM15_, Q_X15_, fun h0_ => absurd ((hoff 22 (by kernel_rfl)).symm.trans h0_) (by decide)⟩
                  refine steps_cons ?_ ?_
                  · rintro b a w' ⟨v158, v161, v164, v167, v170, v173, v176, v179, v182, v185, v188, m15_, m22_, ha, Q_BK152, Q_HB, Q_HO159, Q_HO162, Q_HO165, Q_HO168, Q_HO171, Q_HO174, Q_HO177, Q_HO180, Q_HO183, Q_HO186, Q_HO189, Q_HM15_, Q_X15_, Q_X22_⟩ hb_ hon hoff
                    refine ⟨_, rfl, fun K hK => ?_⟩
                    have e39 : a.tmps[39]? = some (.pointer (some ⟨gb152, 4, none⟩)) := by rw [ha]; exact (putSel_off rfl).trans rfl
                    replace ha := Aside0.mk ha
                    have BK152 := Aside0.mk Q_BK152
                    have HB := Aside0.mk Q_HB
                    have hc0_ : w'.cell? ⟨gb152, 0, none⟩ = some (.int .i64 a0_0) := (blk_cell BK152.out 0).trans rfl
                    have hc1_ : w'.cell? ⟨gb152, 1, none⟩ = some (.int .i64 a0_1) := (blk_cell BK152.out 1).trans rfl
                    have hc2_ : w'.cell? ⟨gb152, 2, none⟩ = some (.int .i64 a0_2) := (blk_cell BK152.out 2).trans rfl
                    have hc3_ : w'.cell? ⟨gb152, 3, none⟩ = some (.bool true) := (blk_cell BK152.out 3).trans rfl
                    have hc4_ : w'.cell? ⟨gb152, 4, none⟩ = some (.string a0_4) := (blk_cell BK152.out 4).trans rfl
                    refine value_ (w1 := w') (v := .string a0_4) (by rfl) rfl ?_ ?_
                    · go_simp
                      (try simp only [i64_w])
                      try rfl
                    refine hK.out _ _ ⟨v158, v161, v164, v167, v170, v173, v176, v179, v182, v185, v188, m15_, m22_, (by rw [ha.out]; exact putSel_upk 7 hb_ rfl rfl rfl), Q_BK152, Q_HB, Q_HO159, Q_HO162, Q_HO165, Q_HO168, Q_HO171, fun h0_ => absurd ((hoff 12 (by kernel_rfl)).symm.trans h0_) (by decide), Q_HO177, Q_HO180, Q_HO183, fun h0_ => absurd ((hoff 20 (by kernel_rfl)).symm.trans h0_) (by decide), fun h0_ => absurd ((hoff 21 (by kernel_rfl)).symm.trans h0_) (by decide), Q_HM15_, Q_X15_, fun h0_ => absurd ((hoff 22 (by kernel_rfl)).symm.trans h0_) (by decide)⟩
                  refine steps_cons ?_ ?_
                  · rintro b a w' ⟨v158, v161, v164, v167, v170, v173, v176, v179, v182, v185, v188, m15_, m22_, ha, Q_BK152, Q_HB, Q_HO159, Q_HO162, Q_HO165, Q_HO168, Q_HO171, Q_HO174, Q_HO177, Q_HO180, Q_HO183, Q_HO186, Q_HO189, Q_HM15_, Q_X15_, Q_X22_⟩ hb_ hon hoff
                    refine ⟨_, rfl, fun K hK => ?_⟩
                    have e40 : a.tmps[40]? = some (.string a0_4) := by rw [ha]; exact putSel_on (e := (11, 40, .string a0_4)) 7 rfl rfl (hon 11 (by kernel_rfl)) rfl
                    replace ha := Aside0.mk ha
                    have BK152 := Aside0.mk Q_BK152
                    have HB := Aside0.mk Q_HB
                    refine Kd.V_make_step _ 5 (by rfl) (N' := 41) rfl 9 22 _ rfl a0_4 (by first | rfl | exact eval_tmp (by assumption)) Try.underlying9 Try.underlying22 Try.underlying5 (ok := fun k_ => w'.heap.size ≤ k_) (Nat.le_refl _) (of_decide_eq_true (by first | (with_reducible assumption) | assumption) : a0_4.size ≤ 140737488355328) (Below.refl _ _) (Nat.le_refl _) ?_
                    intro v173 w25 ho26 hb hg_ hnew_
                    clear hg_ hnew_
                    (first | rw [← Ny172.out] at ho26 | (simp only [Int.reduceToNat] at ho26; rw [← Ny172.out] at ho26))
                    have n0_ := Aside0.mk (Kd.V_lower (Kd.V_mono (ok' := fun k_ => k_ ≠ gb152) ho26 (fun k_ hk_ => (Kd.freshB (g := gb152) (o := .cells #[.int .i64 a0_0, .int .i64 a0_1, .int .i64 a0_2, .bool true, .string a0_4] 46 (0, 0)) (by (with_reducible repeat (first | refine blk_drewN ?_ _ | refine blk_drew ?_ | refine blk_alloc ?_ _)); exact BK152.out) k_ hk_))) (below_size (by repeat (first | (with_reducible first | exact HB.out | apply below_alloc | apply pw_below_drewN | apply below_drew1 | refine below_set ?_ GE152.out) | exact HB.out))))
                    have n1_ := Aside0.mk (blk_below (g := gb152) (o := .cells #[.int .i64 a0_0, .int .i64 a0_1, .int .i64 a0_2, .bool true, .string a0_4] 46 (0, 0)) (by (with_reducible repeat (first | refine blk_drewN ?_ _ | refine blk_drew ?_ | refine blk_alloc ?_ _)); exact BK152.out) hb)
                    have n2_ := Aside0.mk (below_step (by repeat (first | (with_reducible first | exact HB.out | apply below_alloc | apply pw_below_drewN | apply below_drew1 | refine below_set ?_ GE152.out) | exact HB.out)) hb)
                    have z_HO159 := fun (h0_ : b 1 = true) (h1_ : b 20 = false) => (show Kd.V (Kd.int .u8) 5 w25 w.heap.size (fun k_ => k_ ≠ gb152) v158 y157 from by first | exact (Kd.V_below (by (with_reducible repeat (first | apply Kd.V_alloc | apply Kd.V_drewN | apply Kd.V_drew)); exact (Q_HO159 h0_ h1_)) hb) | exact Kd.V_mono (Kd.V_below (by (with_reducible repeat (first | apply Kd.V_alloc | apply Kd.V_drewN | apply Kd.V_drew)); exact (Q_HO159 h0_ h1_)) hb) (fun _ h_ => by first | trivial | exact h_ | exact h_.1))
                    have z_HO162 := fun (h0_ : b 4 = true) (h1_ : b 20 = false) => (show Kd.V (Kd.int .u8) 5 w25 w.heap.size (fun k_ => k_ ≠ gb152) v161 t160 from by first | exact (Kd.V_below (by (with_reducible repeat (first | apply Kd.V_alloc | apply Kd.V_drewN | apply Kd.V_drew)); exact (Q_HO162 h0_ h1_)) hb) | exact Kd.V_mono (Kd.V_below (by (with_reducible repeat (first | apply Kd.V_alloc | apply Kd.V_drewN | apply Kd.V_drew)); exact (Q_HO162 h0_ h1_)) hb) (fun _ h_ => by first | trivial | exact h_ | exact h_.1))
                    have z_HO165 := fun (h0_ : b 5 = true) (h1_ : b 20 = false) => (show Kd.V (Kd.int .u8) 5 w25 w.heap.size (fun k_ => k_ ≠ gb152) v164 y163 from by first | exact (Kd.V_below (by (with_reducible repeat (first | apply Kd.V_alloc | apply Kd.V_drewN | apply Kd.V_drew)); exact (Q_HO165 h0_ h1_)) hb) | exact Kd.V_mono (Kd.V_below (by (with_reducible repeat (first | apply Kd.V_alloc | apply Kd.V_drewN | apply Kd.V_drew)); exact (Q_HO165 h0_ h1_)) hb) (fun _ h_ => by first | trivial | exact h_ | exact h_.1))
                    have z_HO168 := fun (h0_ : b 8 = true) (h1_ : b 20 = false) => (show Kd.V (Kd.int .u8) 5 w25 w.heap.size (fun k_ => k_ ≠ gb152) v167 t166 from by first | exact (Kd.V_below (by (with_reducible repeat (first | apply Kd.V_alloc | apply Kd.V_drewN | apply Kd.V_drew)); exact (Q_HO168 h0_ h1_)) hb) | exact Kd.V_mono (Kd.V_below (by (with_reducible repeat (first | apply Kd.V_alloc | apply Kd.V_drewN | apply Kd.V_drew)); exact (Q_HO168 h0_ h1_)) hb) (fun _ h_ => by first | trivial | exact h_ | exact h_.1))
                    have z_HO171 := fun (h0_ : b 9 = true) (h1_ : b 20 = false) => (show Kd.V (Kd.int .u8) 5 w25 w.heap.size (fun k_ => k_ ≠ gb152) v170 y169 from by first | exact (Kd.V_below (by (with_reducible repeat (first | apply Kd.V_alloc | apply Kd.V_drewN | apply Kd.V_drew)); exact (Q_HO171 h0_ h1_)) hb) | exact Kd.V_mono (Kd.V_below (by (with_reducible repeat (first | apply Kd.V_alloc | apply Kd.V_drewN | apply Kd.V_drew)); exact (Q_HO171 h0_ h1_)) hb) (fun _ h_ => by first | trivial | exact h_ | exact h_.1))
                    have z_HO177 := fun (h0_ : b 13 = true) (h1_ : b 20 = false) => (show Kd.V (Kd.int .u8) 5 w25 w.heap.size (fun k_ => k_ ≠ gb152) v176 y175 from by first | exact (Kd.V_below (by (with_reducible repeat (first | apply Kd.V_alloc | apply Kd.V_drewN | apply Kd.V_drew)); exact (Q_HO177 h0_ h1_)) hb) | exact Kd.V_mono (Kd.V_below (by (with_reducible repeat (first | apply Kd.V_alloc | apply Kd.V_drewN | apply Kd.V_drew)); exact (Q_HO177 h0_ h1_)) hb) (fun _ h_ => by first | trivial | exact h_ | exact h_.1))
                    have z_HO180 := fun (h0_ : b 14 = true) (h1_ : b 20 = false) => (show Kd.V (Kd.int .u8) 5 w25 w.heap.size (fun k_ => k_ ≠ gb152) v179 y178 from by first | exact (Kd.V_below (by (with_reducible repeat (first | apply Kd.V_alloc | apply Kd.V_drewN | apply Kd.V_drew)); exact (Q_HO180 h0_ h1_)) hb) | exact Kd.V_mono (Kd.V_below (by (with_reducible repeat (first | apply Kd.V_alloc | apply Kd.V_drewN | apply Kd.V_drew)); exact (Q_HO180 h0_ h1_)) hb) (fun _ h_ => by first | trivial | exact h_ | exact h_.1))
                    have z_HO183 := fun (h0_ : b 19 = true) (h1_ : b 20 = false) => (show Kd.V (Kd.int .u8) 5 w25 w.heap.size (fun k_ => k_ ≠ gb152) v182 y181 from by first | exact (Kd.V_below (by (with_reducible repeat (first | apply Kd.V_alloc | apply Kd.V_drewN | apply Kd.V_drew)); exact (Q_HO183 h0_ h1_)) hb) | exact Kd.V_mono (Kd.V_below (by (with_reducible repeat (first | apply Kd.V_alloc | apply Kd.V_drewN | apply Kd.V_drew)); exact (Q_HO183 h0_ h1_)) hb) (fun _ h_ => by first | trivial | exact h_ | exact h_.1))
                    clear BK152
                    clear HB
                    have HO174 := n0_
                    have BK152 := n1_
                    have HB := n2_
                    clear n0_ n1_ n2_
                    clear hb ho26
                    refine hK.out _ _ ⟨v158, v161, v164, v167, v170, v173, v176, v179, v182, v185, v188, m15_, m22_, (by rw [ha.out]; exact putSel_upk 8 hb_ rfl rfl rfl), (by (with_reducible repeat (first | refine blk_drewN ?_ _ | refine blk_drew ?_ | refine blk_alloc ?_ _)); exact BK152.out), (by repeat (first | (with_reducible first | exact HB.out | apply below_alloc | apply pw_below_drewN | apply below_drew1 | refine below_set ?_ GE152.out) | exact HB.out)), z_HO159, z_HO162, z_HO165, z_HO168, z_HO171, fun _ => (by (with_reducible repeat (first | apply Kd.V_alloc | apply Kd.V_drewN | apply Kd.V_drew)); exact HO174.out), z_HO177, z_HO180, z_HO183, fun h0_ => absurd ((hoff 20 (by kernel_rfl)).symm.trans h0_) (by decide), fun h0_ => absurd ((hoff 21 (by kernel_rfl)).symm.trans h0_) (by decide), Q_HM15_, Q_X15_, fun h0_ => absurd ((hoff 22 (by kernel_rfl)).symm.trans h0_) (by decide)⟩
                  refine steps_cons ?_ ?_
                  · rintro b a w' ⟨v158, v161, v164, v167, v170, v173, v176, v179, v182, v185, v188, m15_, m22_, ha, Q_BK152, Q_HB, Q_HO159, Q_HO162, Q_HO165, Q_HO168, Q_HO171, Q_HO174, Q_HO177, Q_HO180, Q_HO183, Q_HO186, Q_HO189, Q_HM15_, Q_X15_, Q_X22_⟩ hb_ hon hoff
                    refine ⟨_, rfl, fun K hK => ?_⟩
                    replace ha := Aside0.mk ha
                    have BK152 := Aside0.mk Q_BK152
                    have HB := Aside0.mk Q_HB
                    refine Kd.R_make_step (Kd.int .u8) _ 5 (by rfl) (N := 42) rfl 22 _ _ rfl 202 rfl rfl Try.underlying22 (.int .u8 0) 1 info5 rfl (by decide) (by omega) 0 (ok := fun _ => True) (okp := fun _ => True) rfl (fun _ hk => hk) trivial (by omega) (by omega) (Below.refl _ _) (Nat.le_refl _) ?_
                    intro v176 w25 ho26 hb hg_ hnew_
                    clear hg_ hnew_
                    (first | rw [← Ny175.out] at ho26 | (simp only [Int.reduceToNat] at ho26; rw [← Ny175.out] at ho26))
                    have n0_ := Aside0.mk (Kd.R_lower ho26 (below_size (by repeat (first | (with_reducible first | exact HB.out | apply below_alloc | apply pw_below_drewN | apply below_drew1 | refine below_set ?_ GE152.out) | exact HB.out))))
                    have n1_ := Aside0.mk (blk_below (g := gb152) (o := .cells #[.int .i64 a0_0, .int .i64 a0_1, .int .i64 a0_2, .bool true, .string a0_4] 46 (0, 0)) (by (with_reducible repeat (first | refine blk_drewN ?_ _ | refine blk_drew ?_ | refine blk_alloc ?_ _)); exact BK152.out) hb)
                    have n2_ := Aside0.mk (below_step (by repeat (first | (with_reducible first | exact HB.out | apply below_alloc | apply pw_below_drewN | apply below_drew1 | refine below_set ?_ GE152.out) | exact HB.out)) hb)
                    have z_HO159 := fun (h0_ : b 1 = true) (h1_ : b 20 = false) => (show Kd.V (Kd.int .u8) 5 w25 w.heap.size (fun k_ => k_ ≠ gb152) v158 y157 from by first | exact (Kd.V_elder' (by (with_reducible repeat (first | apply Kd.V_alloc | apply Kd.V_drewN | apply Kd.V_drew)); exact (Q_HO159 h0_ h1_)) (Kd.R_base ho26) hb) | exact Kd.V_mono (Kd.V_elder' (by (with_reducible repeat (first | apply Kd.V_alloc | apply Kd.V_drewN | apply Kd.V_drew)); exact (Q_HO159 h0_ h1_)) (Kd.R_base ho26) hb) (fun _ h_ => by first | trivial | exact h_ | exact h_.1))
                    have z_HO162 := fun (h0_ : b 4 = true) (h1_ : b 20 = false) => (show Kd.V (Kd.int .u8) 5 w25 w.heap.size (fun k_ => k_ ≠ gb152) v161 t160 from by first | exact (Kd.V_elder' (by (with_reducible repeat (first | apply Kd.V_alloc | apply Kd.V_drewN | apply Kd.V_drew)); exact (Q_HO162 h0_ h1_)) (Kd.R_base ho26) hb) | exact Kd.V_mono (Kd.V_elder' (by (with_reducible repeat (first | apply Kd.V_alloc | apply Kd.V_drewN | apply Kd.V_drew)); exact (Q_HO162 h0_ h1_)) (Kd.R_base ho26) hb) (fun _ h_ => by first | trivial | exact h_ | exact h_.1))
                    have z_HO165 := fun (h0_ : b 5 = true) (h1_ : b 20 = false) => (show Kd.V (Kd.int .u8) 5 w25 w.heap.size (fun k_ => k_ ≠ gb152) v164 y163 from by first | exact (Kd.V_elder' (by (with_reducible repeat (first | apply Kd.V_alloc | apply Kd.V_drewN | apply Kd.V_drew)); exact (Q_HO165 h0_ h1_)) (Kd.R_base ho26) hb) | exact Kd.V_mono (Kd.V_elder' (by (with_reducible repeat (first | apply Kd.V_alloc | apply Kd.V_drewN | apply Kd.V_drew)); exact (Q_HO165 h0_ h1_)) (Kd.R_base ho26) hb) (fun _ h_ => by first | trivial | exact h_ | exact h_.1))
                    have z_HO168 := fun (h0_ : b 8 = true) (h1_ : b 20 = false) => (show Kd.V (Kd.int .u8) 5 w25 w.heap.size (fun k_ => k_ ≠ gb152) v167 t166 from by first | exact (Kd.V_elder' (by (with_reducible repeat (first | apply Kd.V_alloc | apply Kd.V_drewN | apply Kd.V_drew)); exact (Q_HO168 h0_ h1_)) (Kd.R_base ho26) hb) | exact Kd.V_mono (Kd.V_elder' (by (with_reducible repeat (first | apply Kd.V_alloc | apply Kd.V_drewN | apply Kd.V_drew)); exact (Q_HO168 h0_ h1_)) (Kd.R_base ho26) hb) (fun _ h_ => by first | trivial | exact h_ | exact h_.1))
                    have z_HO171 := fun (h0_ : b 9 = true) (h1_ : b 20 = false) => (show Kd.V (Kd.int .u8) 5 w25 w.heap.size (fun k_ => k_ ≠ gb152) v170 y169 from by first | exact (Kd.V_elder' (by (with_reducible repeat (first | apply Kd.V_alloc | apply Kd.V_drewN | apply Kd.V_drew)); exact (Q_HO171 h0_ h1_)) (Kd.R_base ho26) hb) | exact Kd.V_mono (Kd.V_elder' (by (with_reducible repeat (first | apply Kd.V_alloc | apply Kd.V_drewN | apply Kd.V_drew)); exact (Q_HO171 h0_ h1_)) (Kd.R_base ho26) hb) (fun _ h_ => by first | trivial | exact h_ | exact h_.1))
                    have z_HO174 := fun (h0_ : b 12 = true) => (show Kd.V (Kd.int .u8) 5 w25 w.heap.size (fun k_ => k_ ≠ gb152) v173 y172 from by first | exact (Kd.V_elder' (by (with_reducible repeat (first | apply Kd.V_alloc | apply Kd.V_drewN | apply Kd.V_drew)); exact (Q_HO174 h0_)) (Kd.R_base ho26) hb) | exact Kd.V_mono (Kd.V_elder' (by (with_reducible repeat (first | apply Kd.V_alloc | apply Kd.V_drewN | apply Kd.V_drew)); exact (Q_HO174 h0_)) (Kd.R_base ho26) hb) (fun _ h_ => by first | trivial | exact h_ | exact h_.1))
                    have z_HO180 := fun (h0_ : b 14 = true) (h1_ : b 20 = false) => (show Kd.V (Kd.int .u8) 5 w25 w.heap.size (fun k_ => k_ ≠ gb152) v179 y178 from by first | exact (Kd.V_elder' (by (with_reducible repeat (first | apply Kd.V_alloc | apply Kd.V_drewN | apply Kd.V_drew)); exact (Q_HO180 h0_ h1_)) (Kd.R_base ho26) hb) | exact Kd.V_mono (Kd.V_elder' (by (with_reducible repeat (first | apply Kd.V_alloc | apply Kd.V_drewN | apply Kd.V_drew)); exact (Q_HO180 h0_ h1_)) (Kd.R_base ho26) hb) (fun _ h_ => by first | trivial | exact h_ | exact h_.1))
                    have z_HO183 := fun (h0_ : b 19 = true) (h1_ : b 20 = false) => (show Kd.V (Kd.int .u8) 5 w25 w.heap.size (fun k_ => k_ ≠ gb152) v182 y181 from by first | exact (Kd.V_elder' (by (with_reducible repeat (first | apply Kd.V_alloc | apply Kd.V_drewN | apply Kd.V_drew)); exact (Q_HO183 h0_ h1_)) (Kd.R_base ho26) hb) | exact Kd.V_mono (Kd.V_elder' (by (with_reducible repeat (first | apply Kd.V_alloc | apply Kd.V_drewN | apply Kd.V_drew)); exact (Q_HO183 h0_ h1_)) (Kd.R_base ho26) hb) (fun _ h_ => by first | trivial | exact h_ | exact h_.1))
                    clear BK152
                    clear HB
                    have HO177 := n0_
                    have BK152 := n1_
                    have HB := n2_
                    clear n0_ n1_ n2_
                    clear hb ho26
                    refine hK.out _ _ ⟨v158, v161, v164, v167, v170, v173, v176, v179, v182, v185, v188, m15_, m22_, (by rw [ha.out]; exact putSel_upk 9 hb_ rfl rfl rfl), (by (with_reducible repeat (first | refine blk_drewN ?_ _ | refine blk_drew ?_ | refine blk_alloc ?_ _)); exact BK152.out), (by repeat (first | (with_reducible first | exact HB.out | apply below_alloc | apply pw_below_drewN | apply below_drew1 | refine below_set ?_ GE152.out) | exact HB.out)), z_HO159, z_HO162, z_HO165, z_HO168, z_HO171, z_HO174, fun _ _ => Kd.V_mono (Kd.R_V (base' := w.heap.size) (Kd.R_types ((by (with_reducible repeat (first | apply Kd.R_alloc | apply Kd.R_drewN | apply Kd.R_drew)); exact HO177.out)) BK152.out (by decide))) (fun k_ hk => by first | trivial | exact hk | exact hk.2 | exact hk.1 | exact hk.1.2 | exact hk.1.1 | exact hk.2.1 | exact hk.2.2 | exact hk.2.2.2.2), z_HO180, z_HO183, fun h0_ => absurd ((hoff 20 (by kernel_rfl)).symm.trans h0_) (by decide), fun h0_ => absurd ((hoff 21 (by kernel_rfl)).symm.trans h0_) (by decide), Q_HM15_, Q_X15_, fun h0_ => absurd ((hoff 22 (by kernel_rfl)).symm.trans h0_) (by decide)⟩
                  refine steps_cons ?_ ?_
                  · rintro b a w' ⟨v158, v161, v164, v167, v170, v173, v176, v179, v182, v185, v188, m15_, m22_, ha, Q_BK152, Q_HB, Q_HO159, Q_HO162, Q_HO165, Q_HO168, Q_HO171, Q_HO174, Q_HO177, Q_HO180, Q_HO183, Q_HO186, Q_HO189, Q_HM15_, Q_X15_, Q_X22_⟩ hb_ hon hoff
                    refine ⟨_, rfl, fun K hK => ?_⟩
                    replace ha := Aside0.mk ha
                    have BK152 := Aside0.mk Q_BK152
                    have HB := Aside0.mk Q_HB
                    refine Kd.R_lit_step (Kd.int .u8) _ 5 ?hg (N := 43) ?hd (xs := ([99, 130, 83, 99] : List Int)) (inner := [.int .u8 99, .int .u8 130, .int .u8 83, .int .u8 99]) (ok := fun _ => True) (okp := fun _ => True) ?hr ?hp (fun _ hk => hk) trivial (Below.refl _ _) (Nat.le_refl _) (by simp) ?_; (case hd => rfl); (case hg => rfl); (case hr => first | (go_simp; done) | (go_simp; rfl)); (case hp => exact (Reps.one (show Kd.M (Kd.int .u8) _ _ _ 99 [.int .u8 99] from rfl) (Reps.one (show Kd.M (Kd.int .u8) _ _ _ 130 [.int .u8 130] from rfl) (Reps.one (show Kd.M (Kd.int .u8) _ _ _ 83 [.int .u8 83] from rfl) (Reps.one (show Kd.M (Kd.int .u8) _ _ _ 99 [.int .u8 99] from rfl) (Reps.none _ _))))))
                    intro v179 w25 ho26 hb hg_ hnew_
                    clear hg_ hnew_
                    (first | rw [← Ny178.out] at ho26 | (simp only [Int.reduceToNat] at ho26; rw [← Ny178.out] at ho26))
                    have n0_ := Aside0.mk (Kd.R_lower ho26 (below_size (by repeat (first | (with_reducible first | exact HB.out | apply below_alloc | apply pw_below_drewN | apply below_drew1 | refine below_set ?_ GE152.out) | exact HB.out))))
                    have n1_ := Aside0.mk (blk_below (g := gb152) (o := .cells #[.int .i64 a0_0, .int .i64 a0_1, .int .i64 a0_2, .bool true, .string a0_4] 46 (0, 0)) (by (with_reducible repeat (first | refine blk_drewN ?_ _ | refine blk_drew ?_ | refine blk_alloc ?_ _)); exact BK152.out) hb)
                    have n2_ := Aside0.mk (below_step (by repeat (first | (with_reducible first | exact HB.out | apply below_alloc | apply pw_below_drewN | apply below_drew1 | refine below_set ?_ GE152.out) | exact HB.out)) hb)
                    have z_HO159 := fun (h0_ : b 1 = true) (h1_ : b 20 = false) => (show Kd.V (Kd.int .u8) 5 w25 w.heap.size (fun k_ => k_ ≠ gb152) v158 y157 from by first | exact (Kd.V_elder' (by (with_reducible repeat (first | apply Kd.V_alloc | apply Kd.V_drewN | apply Kd.V_drew)); exact (Q_HO159 h0_ h1_)) (Kd.R_base ho26) hb) | exact Kd.V_mono (Kd.V_elder' (by (with_reducible repeat (first | apply Kd.V_alloc | apply Kd.V_drewN | apply Kd.V_drew)); exact (Q_HO159 h0_ h1_)) (Kd.R_base ho26) hb) (fun _ h_ => by first | trivial | exact h_ | exact h_.1))
                    have z_HO162 := fun (h0_ : b 4 = true) (h1_ : b 20 = false) => (show Kd.V (Kd.int .u8) 5 w25 w.heap.size (fun k_ => k_ ≠ gb152) v161 t160 from by first | exact (Kd.V_elder' (by (with_reducible repeat (first | apply Kd.V_alloc | apply Kd.V_drewN | apply Kd.V_drew)); exact (Q_HO162 h0_ h1_)) (Kd.R_base ho26) hb) | exact Kd.V_mono (Kd.V_elder' (by (with_reducible repeat (first | apply Kd.V_alloc | apply Kd.V_drewN | apply Kd.V_drew)); exact (Q_HO162 h0_ h1_)) (Kd.R_base ho26) hb) (fun _ h_ => by first | trivial | exact h_ | exact h_.1))
                    have z_HO165 := fun (h0_ : b 5 = true) (h1_ : b 20 = false) => (show Kd.V (Kd.int .u8) 5 w25 w.heap.size (fun k_ => k_ ≠ gb152) v164 y163 from by first | exact (Kd.V_elder' (by (with_reducible repeat (first | apply Kd.V_alloc | apply Kd.V_drewN | apply Kd.V_drew)); exact (Q_HO165 h0_ h1_)) (Kd.R_base ho26) hb) | exact Kd.V_mono (Kd.V_elder' (by (with_reducible repeat (first | apply Kd.V_alloc | apply Kd.V_drewN | apply Kd.V_drew)); exact (Q_HO165 h0_ h1_)) (Kd.R_base ho26) hb) (fun _ h_ => by first | trivial | exact h_ | exact h_.1))
                    have z_HO168 := fun (h0_ : b 8 = true) (h1_ : b 20 = false) => (show Kd.V (Kd.int .u8) 5 w25 w.heap.size (fun k_ => k_ ≠ gb152) v167 t166 from by first | exact (Kd.V_elder' (by (with_reducible repeat (first | apply Kd.V_alloc | apply Kd.V_drewN | apply Kd.V_drew)); exact (Q_HO168 h0_ h1_)) (Kd.R_base ho26) hb) | exact Kd.V_mono (Kd.V_elder' (by (with_reducible repeat (first | apply Kd.V_alloc | apply Kd.V_drewN | apply Kd.V_drew)); exact (Q_HO168 h0_ h1_)) (Kd.R_base ho26) hb) (fun _ h_ => by first | trivial | exact h_ | exact h_.1))
                    have z_HO171 := fun (h0_ : b 9 = true) (h1_ : b 20 = false) => (show Kd.V (Kd.int .u8) 5 w25 w.heap.size (fun k_ => k_ ≠ gb152) v170 y169 from by first | exact (Kd.V_elder' (by (with_reducible repeat (first | apply Kd.V_alloc | apply Kd.V_drewN | apply Kd.V_drew)); exact (Q_HO171 h0_ h1_)) (Kd.R_base ho26) hb) | exact Kd.V_mono (Kd.V_elder' (by (with_reducible repeat (first | apply Kd.V_alloc | apply Kd.V_drewN | apply Kd.V_drew)); exact (Q_HO171 h0_ h1_)) (Kd.R_base ho26) hb) (fun _ h_ => by first | trivial | exact h_ | exact h_.1))
                    have z_HO174 := fun (h0_ : b 12 = true) => (show Kd.V (Kd.int .u8) 5 w25 w.heap.size (fun k_ => k_ ≠ gb152) v173 y172 from by first | exact (Kd.V_elder' (by (with_reducible repeat (first | apply Kd.V_alloc | apply Kd.V_drewN | apply Kd.V_drew)); exact (Q_HO174 h0_)) (Kd.R_base ho26) hb) | exact Kd.V_mono (Kd.V_elder' (by (with_reducible repeat (first | apply Kd.V_alloc | apply Kd.V_drewN | apply Kd.V_drew)); exact (Q_HO174 h0_)) (Kd.R_base ho26) hb) (fun _ h_ => by first | trivial | exact h_ | exact h_.1))
                    have z_HO177 := fun (h0_ : b 13 = true) (h1_ : b 20 = false) => (show Kd.V (Kd.int .u8) 5 w25 w.heap.size (fun k_ => k_ ≠ gb152) v176 y175 from by first | exact (Kd.V_elder' (by (with_reducible repeat (first | apply Kd.V_alloc | apply Kd.V_drewN | apply Kd.V_drew)); exact (Q_HO177 h0_ h1_)) (Kd.R_base ho26) hb) | exact Kd.V_mono (Kd.V_elder' (by (with_reducible repeat (first | apply Kd.V_alloc | apply Kd.V_drewN | apply Kd.V_drew)); exact (Q_HO177 h0_ h1_)) (Kd.R_base ho26) hb) (fun _ h_ => by first | trivial | exact h_ | exact h_.1))
                    have z_HO183 := fun (h0_ : b 19 = true) (h1_ : b 20 = false) => (show Kd.V (Kd.int .u8) 5 w25 w.heap.size (fun k_ => k_ ≠ gb152) v182 y181 from by first | exact (Kd.V_elder' (by (with_reducible repeat (first | apply Kd.V_alloc | apply Kd.V_drewN | apply Kd.V_drew)); exact (Q_HO183 h0_ h1_)) (Kd.R_base ho26) hb) | exact Kd.V_mono (Kd.V_elder' (by (with_reducible repeat (first | apply Kd.V_alloc | apply Kd.V_drewN | apply Kd.V_drew)); exact (Q_HO183 h0_ h1_)) (Kd.R_base ho26) hb) (fun _ h_ => by first | trivial | exact h_ | exact h_.1))
                    clear BK152
                    clear HB
                    have HO180 := n0_
                    have BK152 := n1_
                    have HB := n2_
                    clear n0_ n1_ n2_
                    clear hb ho26
                    refine hK.out _ _ ⟨v158, v161, v164, v167, v170, v173, v176, v179, v182, v185, v188, m15_, m22_, (by rw [ha.out]; exact putSel_upk 10 hb_ rfl rfl rfl), (by (with_reducible repeat (first | refine blk_drewN ?_ _ | refine blk_drew ?_ | refine blk_alloc ?_ _)); exact BK152.out), (by repeat (first | (with_reducible first | exact HB.out | apply below_alloc | apply pw_below_drewN | apply below_drew1 | refine below_set ?_ GE152.out) | exact HB.out)), z_HO159, z_HO162, z_HO165, z_HO168, z_HO171, z_HO174, z_HO177, fun _ _ => Kd.V_mono (Kd.R_V (base' := w.heap.size) (Kd.R_types ((by (with_reducible repeat (first | apply Kd.R_alloc | apply Kd.R_drewN | apply Kd.R_drew)); exact HO180.out)) BK152.out (by decide))) (fun k_ hk => by first | trivial | exact hk | exact hk.2 | exact hk.1 | exact hk.1.2 | exact hk.1.1 | exact hk.2.1 | exact hk.2.2 | exact hk.2.2.2.2), z_HO183, fun h0_ => absurd ((hoff 20 (by kernel_rfl)).symm.trans h0_) (by decide), fun h0_ => absurd ((hoff 21 (by kernel_rfl)).symm.trans h0_) (by decide), fun _ => (by obtain ⟨g_, h1_, h2_, h3_⟩ := Kd.R_block (Kd.R_types ((by (with_reducible repeat (first | apply Kd.R_alloc | apply Kd.R_drewN | apply Kd.R_drew)); exact HO180.out)) BK152.out (by decide)) (by rw [Ny178.out]; rfl); exact ⟨g_, h1_, h2_, h3_.2⟩), fun h0_ => absurd ((hoff 15 (by kernel_rfl)).symm.trans h0_) (by decide), fun h0_ => absurd ((hoff 22 (by kernel_rfl)).symm.trans h0_) (by decide)⟩
                  refine steps_cons ?_ ?_
                  · rintro b a w' ⟨v158, v161, v164, v167, v170, v173, v176, v179, v182, v185, v188, m15_, m22_, ha, Q_BK152, Q_HB, Q_HO159, Q_HO162, Q_HO165, Q_HO168, Q_HO171, Q_HO174, Q_HO177, Q_HO180, Q_HO183, Q_HO186, Q_HO189, Q_HM15_, Q_X15_, Q_X22_⟩ hb_ hon hoff
                    refine ⟨_, rfl, fun K hK => ?_⟩
                    have e43 : a.tmps[43]? = some (v179) := by rw [ha]; exact putSel_on (e := (14, 43, v179)) 10 rfl rfl (hon 14 (by kernel_rfl)) rfl
                    replace ha := Aside0.mk ha
                    have BK152 := Aside0.mk Q_BK152
                    have HB := Aside0.mk Q_HB
                    have HO180 := Aside0.mk (Q_HO180 (hon 14 (by kernel_rfl)) (hoff 20 (by kernel_rfl)))
                    have HM15_ := Aside0.mk (Q_HM15_ (hon 14 (by kernel_rfl)))
                    obtain ⟨g_, hg1_, hg2_, hg3_0⟩ := HM15_.out
                    refine mark_step (by rfl) 22 5 _ rfl (by first | rfl | exact eval_tmp e43) Try.underlying22 Try.underlying5 HO180.out hg1_ ?_
                    intro w1_ hm_
                    refine hK.out _ _ ⟨v158, v161, v164, v167, v170, v173, v176, v179, v182, v185, v188, (v179), m22_, (by rw [ha.out]; exact putSel_upk 11 hb_ rfl rfl rfl), (blk_marked BK152.out hm_ hg3_0), (below_marked HB.out hm_ (below_size HB.out) hg2_), (fun h0_ h1_ => Kd.V_marked (Q_HO159 h0_ h1_) hm_), (fun h0_ h1_ => Kd.V_marked (Q_HO162 h0_ h1_) hm_), (fun h0_ h1_ => Kd.V_marked (Q_HO165 h0_ h1_) hm_), (fun h0_ h1_ => Kd.V_marked (Q_HO168 h0_ h1_) hm_), (fun h0_ h1_ => Kd.V_marked (Q_HO171 h0_ h1_) hm_), (fun h0_ => Kd.V_marked (Q_HO174 h0_) hm_), (fun h0_ h1_ => Kd.V_marked (Q_HO177 h0_ h1_) hm_), (fun h0_ h1_ => Kd.V_marked (Q_HO180 h0_ h1_) hm_), (fun h0_ h1_ => Kd.V_marked (Q_HO183 h0_ h1_) hm_), fun h0_ => absurd ((hoff 20 (by kernel_rfl)).symm.trans h0_) (by decide), fun h0_ => absurd ((hoff 21 (by kernel_rfl)).symm.trans h0_) (by decide), Q_HM15_, fun _ => rfl, fun h0_ => absurd ((hoff 22 (by kernel_rfl)).symm.trans h0_) (by decide)⟩
                  refine steps_cons ?_ ?_
                  · rintro b a w' ⟨v158, v161, v164, v167, v170, v173, v176, v179, v182, v185, v188, m15_, m22_, ha, Q_BK152, Q_HB, Q_HO159, Q_HO162, Q_HO165, Q_HO168, Q_HO171, Q_HO174, Q_HO177, Q_HO180, Q_HO183, Q_HO186, Q_HO189, Q_HM15_, Q_X15_, Q_X22_⟩ hb_ hon hoff
                    refine ⟨_, rfl, fun K hK => ?_⟩
                    have e45 : a.tmps[45]? = some (.pointer (some ⟨gb152, 2, none⟩)) := by rw [ha]; exact (putSel_off rfl).trans rfl
                    replace ha := Aside0.mk ha
                    have BK152 := Aside0.mk Q_BK152
                    have HB := Aside0.mk Q_HB
                    have hc0_ : w'.cell? ⟨gb152, 0, none⟩ = some (.int .i64 a0_0) := (blk_cell BK152.out 0).trans rfl
                    have hc1_ : w'.cell? ⟨gb152, 1, none⟩ = some (.int .i64 a0_1) := (blk_cell BK152.out 1).trans rfl
                    have hc2_ : w'.cell? ⟨gb152, 2, none⟩ = some (.int .i64 a0_2) := (blk_cell BK152.out 2).trans rfl
                    have hc3_ : w'.cell? ⟨gb152, 3, none⟩ = some (.bool true) := (blk_cell BK152.out 3).trans rfl
                    have hc4_ : w'.cell? ⟨gb152, 4, none⟩ = some (.string a0_4) := (blk_cell BK152.out 4).trans rfl
                    refine value_ (w1 := w') (v := .int .i64 a0_2) (by rfl) rfl ?_ ?_
                    · go_simp
                      (try simp only [i64_w])
                      try rfl
                    refine hK.out _ _ ⟨v158, v161, v164, v167, v170, v173, v176, v179, v182, v185, v188, m15_, m22_, (by rw [ha.out]; exact putSel_upk 12 hb_ rfl rfl rfl), Q_BK152, Q_HB, Q_HO159, Q_HO162, Q_HO165, Q_HO168, Q_HO171, Q_HO174, Q_HO177, Q_HO180, fun h0_ _ => absurd ((hoff 19 (by kernel_rfl)).symm.trans h0_) (by decide), fun h0_ => absurd ((hoff 20 (by kernel_rfl)).symm.trans h0_) (by decide), fun h0_ => absurd ((hoff 21 (by kernel_rfl)).symm.trans h0_) (by decide), Q_HM15_, Q_X15_, fun h0_ => absurd ((hoff 22 (by kernel_rfl)).symm.trans h0_) (by decide)⟩
                  refine steps_cons ?_ ?_
                  · rintro b a w' ⟨v158, v161, v164, v167, v170, v173, v176, v179, v182, v185, v188, m15_, m22_, ha, Q_BK152, Q_HB, Q_HO159, Q_HO162, Q_HO165, Q_HO168, Q_HO171, Q_HO174, Q_HO177, Q_HO180, Q_HO183, Q_HO186, Q_HO189, Q_HM15_, Q_X15_, Q_X22_⟩ hb_ hon hoff
                    refine ⟨_, rfl, fun K hK => ?_⟩
                    have e46 : a.tmps[46]? = some (.int .i64 a0_2) := by rw [ha]; exact putSel_on (e := (17, 46, .int .i64 a0_2)) 12 rfl rfl (hon 17 (by kernel_rfl)) rfl
                    replace ha := Aside0.mk ha
                    have BK152 := Aside0.mk Q_BK152
                    have HB := Aside0.mk Q_HB
                    refine value_ (w1 := w') (v := .int .u8 ((a0_2) % 256)) (by rfl) rfl ?_ ?_
                    · go_simp
                      (try simp only [i64_w])
                      try rfl
                    refine hK.out _ _ ⟨v158, v161, v164, v167, v170, v173, v176, v179, v182, v185, v188, m15_, m22_, (by rw [ha.out]; exact putSel_upk 13 hb_ rfl rfl rfl), Q_BK152, Q_HB, Q_HO159, Q_HO162, Q_HO165, Q_HO168, Q_HO171, Q_HO174, Q_HO177, Q_HO180, fun h0_ _ => absurd ((hoff 19 (by kernel_rfl)).symm.trans h0_) (by decide), fun h0_ => absurd ((hoff 20 (by kernel_rfl)).symm.trans h0_) (by decide), fun h0_ => absurd ((hoff 21 (by kernel_rfl)).symm.trans h0_) (by decide), Q_HM15_, Q_X15_, fun h0_ => absurd ((hoff 22 (by kernel_rfl)).symm.trans h0_) (by decide)⟩
                  refine steps_cons ?_ ?_
                  · rintro b a w' ⟨v158, v161, v164, v167, v170, v173, v176, v179, v182, v185, v188, m15_, m22_, ha, Q_BK152, Q_HB, Q_HO159, Q_HO162, Q_HO165, Q_HO168, Q_HO171, Q_HO174, Q_HO177, Q_HO180, Q_HO183, Q_HO186, Q_HO189, Q_HM15_, Q_X15_, Q_X22_⟩ hb_ hon hoff
                    refine ⟨_, rfl, fun K hK => ?_⟩
                    have e47 : a.tmps[47]? = some (.int .u8 ((a0_2) % 256)) := by rw [ha]; exact putSel_on (e := (18, 47, .int .u8 ((a0_2) % 256))) 13 rfl rfl (hon 18 (by kernel_rfl)) rfl
                    replace ha := Aside0.mk ha
                    have BK152 := Aside0.mk Q_BK152
                    have HB := Aside0.mk Q_HB
                    refine Kd.R_lit_step (Kd.int .u8) _ 5 ?hg (N := 48) ?hd (xs := ([53, 1, (a0_2) % 256, 255] : List Int)) (inner := [.int .u8 53, .int .u8 1, .int .u8 ((a0_2) % 256), .int .u8 255]) (ok := fun _ => True) (okp := fun _ => True) ?hr ?hp (fun _ hk => hk) trivial (Below.refl _ _) (Nat.le_refl _) (by simp) ?_; (case hd => rfl); (case hg => rfl); (case hr => first | (go_simp; done) | (go_simp; rfl)); (case hp => exact (Reps.one (show Kd.M (Kd.int .u8) _ _ _ 53 [.int .u8 53] from rfl) (Reps.one (show Kd.M (Kd.int .u8) _ _ _ 1 [.int .u8 1] from rfl) (Reps.one (show Kd.M (Kd.int .u8) _ _ _ ((a0_2) % 256) [.int .u8 ((a0_2) % 256)] from rfl) (Reps.one (show Kd.M (Kd.int .u8) _ _ _ 255 [.int .u8 255] from rfl) (Reps.none _ _))))))
                    intro v182 w25 ho26 hb hg_ hnew_
                    clear hg_ hnew_
                    (first | rw [← Ny181.out] at ho26 | (simp only [Int.reduceToNat] at ho26; rw [← Ny181.out] at ho26))
                    have n0_ := Aside0.mk (Kd.R_lower ho26 (below_size (by repeat (first | (with_reducible first | exact HB.out | apply below_alloc | apply pw_below_drewN | apply below_drew1 | refine below_set ?_ GE152.out) | exact HB.out))))
                    have n1_ := Aside0.mk (blk_below (g := gb152) (o := .cells #[.int .i64 a0_0, .int .i64 a0_1, .int .i64 a0_2, .bool true, .string a0_4] 46 (0, 0)) (by (with_reducible repeat (first | refine blk_drewN ?_ _ | refine blk_drew ?_ | refine blk_alloc ?_ _)); exact BK152.out) hb)
                    have n2_ := Aside0.mk (below_step (by repeat (first | (with_reducible first | exact HB.out | apply below_alloc | apply pw_below_drewN | apply below_drew1 | refine below_set ?_ GE152.out) | exact HB.out)) hb)
                    have z_HO159 := fun (h0_ : b 1 = true) (h1_ : b 20 = false) => (show Kd.V (Kd.int .u8) 5 w25 w.heap.size (fun k_ => k_ ≠ gb152) v158 y157 from by first | exact (Kd.V_elder' (by (with_reducible repeat (first | apply Kd.V_alloc | apply Kd.V_drewN | apply Kd.V_drew)); exact (Q_HO159 h0_ h1_)) (Kd.R_base ho26) hb) | exact Kd.V_mono (Kd.V_elder' (by (with_reducible repeat (first | apply Kd.V_alloc | apply Kd.V_drewN | apply Kd.V_drew)); exact (Q_HO159 h0_ h1_)) (Kd.R_base ho26) hb) (fun _ h_ => by first | trivial | exact h_ | exact h_.1))
                    have z_HO162 := fun (h0_ : b 4 = true) (h1_ : b 20 = false) => (show Kd.V (Kd.int .u8) 5 w25 w.heap.size (fun k_ => k_ ≠ gb152) v161 t160 from by first | exact (Kd.V_elder' (by (with_reducible repeat (first | apply Kd.V_alloc | apply Kd.V_drewN | apply Kd.V_drew)); exact (Q_HO162 h0_ h1_)) (Kd.R_base ho26) hb) | exact Kd.V_mono (Kd.V_elder' (by (with_reducible repeat (first | apply Kd.V_alloc | apply Kd.V_drewN | apply Kd.V_drew)); exact (Q_HO162 h0_ h1_)) (Kd.R_base ho26) hb) (fun _ h_ => by first | trivial | exact h_ | exact h_.1))
                    have z_HO165 := fun (h0_ : b 5 = true) (h1_ : b 20 = false) => (show Kd.V (Kd.int .u8) 5 w25 w.heap.size (fun k_ => k_ ≠ gb152) v164 y163 from by first | exact (Kd.V_elder' (by (with_reducible repeat (first | apply Kd.V_alloc | apply Kd.V_drewN | apply Kd.V_drew)); exact (Q_HO165 h0_ h1_)) (Kd.R_base ho26) hb) | exact Kd.V_mono (Kd.V_elder' (by (with_reducible repeat (first | apply Kd.V_alloc | apply Kd.V_drewN | apply Kd.V_drew)); exact (Q_HO165 h0_ h1_)) (Kd.R_base ho26) hb) (fun _ h_ => by first | trivial | exact h_ | exact h_.1))
                    have z_HO168 := fun (h0_ : b 8 = true) (h1_ : b 20 = false) => (show Kd.V (Kd.int .u8) 5 w25 w.heap.size (fun k_ => k_ ≠ gb152) v167 t166 from by first | exact (Kd.V_elder' (by (with_reducible repeat (first | apply Kd.V_alloc | apply Kd.V_drewN | apply Kd.V_drew)); exact (Q_HO168 h0_ h1_)) (Kd.R_base ho26) hb) | exact Kd.V_mono (Kd.V_elder' (by (with_reducible repeat (first | apply Kd.V_alloc | apply Kd.V_drewN | apply Kd.V_drew)); exact (Q_HO168 h0_ h1_)) (Kd.R_base ho26) hb) (fun _ h_ => by first | trivial | exact h_ | exact h_.1))
                    have z_HO171 := fun (h0_ : b 9 = true) (h1_ : b 20 = false) => (show Kd.V (Kd.int .u8) 5 w25 w.heap.size (fun k_ => k_ ≠ gb152) v170 y169 from by first | exact (Kd.V_elder' (by (with_reducible repeat (first | apply Kd.V_alloc | apply Kd.V_drewN | apply Kd.V_drew)); exact (Q_HO171 h0_ h1_)) (Kd.R_base ho26) hb) | exact Kd.V_mono (Kd.V_elder' (by (with_reducible repeat (first | apply Kd.V_alloc | apply Kd.V_drewN | apply Kd.V_drew)); exact (Q_HO171 h0_ h1_)) (Kd.R_base ho26) hb) (fun _ h_ => by first | trivial | exact h_ | exact h_.1))
                    have z_HO174 := fun (h0_ : b 12 = true) => (show Kd.V (Kd.int .u8) 5 w25 w.heap.size (fun k_ => k_ ≠ gb152) v173 y172 from by first | exact (Kd.V_elder' (by (with_reducible repeat (first | apply Kd.V_alloc | apply Kd.V_drewN | apply Kd.V_drew)); exact (Q_HO174 h0_)) (Kd.R_base ho26) hb) | exact Kd.V_mono (Kd.V_elder' (by (with_reducible repeat (first | apply Kd.V_alloc | apply Kd.V_drewN | apply Kd.V_drew)); exact (Q_HO174 h0_)) (Kd.R_base ho26) hb) (fun _ h_ => by first | trivial | exact h_ | exact h_.1))
                    have z_HO177 := fun (h0_ : b 13 = true) (h1_ : b 20 = false) => (show Kd.V (Kd.int .u8) 5 w25 w.heap.size (fun k_ => k_ ≠ gb152) v176 y175 from by first | exact (Kd.V_elder' (by (with_reducible repeat (first | apply Kd.V_alloc | apply Kd.V_drewN | apply Kd.V_drew)); exact (Q_HO177 h0_ h1_)) (Kd.R_base ho26) hb) | exact Kd.V_mono (Kd.V_elder' (by (with_reducible repeat (first | apply Kd.V_alloc | apply Kd.V_drewN | apply Kd.V_drew)); exact (Q_HO177 h0_ h1_)) (Kd.R_base ho26) hb) (fun _ h_ => by first | trivial | exact h_ | exact h_.1))
                    have z_HO180 := fun (h0_ : b 14 = true) (h1_ : b 20 = false) => (show Kd.V (Kd.int .u8) 5 w25 w.heap.size (fun k_ => k_ ≠ gb152) v179 y178 from by first | exact (Kd.V_elder' (by (with_reducible repeat (first | apply Kd.V_alloc | apply Kd.V_drewN | apply Kd.V_drew)); exact (Q_HO180 h0_ h1_)) (Kd.R_base ho26) hb) | exact Kd.V_mono (Kd.V_elder' (by (with_reducible repeat (first | apply Kd.V_alloc | apply Kd.V_drewN | apply Kd.V_drew)); exact (Q_HO180 h0_ h1_)) (Kd.R_base ho26) hb) (fun _ h_ => by first | trivial | exact h_ | exact h_.1))
                    clear BK152
                    clear HB
                    have HO183 := n0_
                    have BK152 := n1_
                    have HB := n2_
                    clear n0_ n1_ n2_
                    clear hb ho26
                    refine hK.out _ _ ⟨v158, v161, v164, v167, v170, v173, v176, v179, v182, v185, v188, m15_, m22_, (by rw [ha.out]; exact putSel_upk 14 hb_ rfl rfl rfl), (by (with_reducible repeat (first | refine blk_drewN ?_ _ | refine blk_drew ?_ | refine blk_alloc ?_ _)); exact BK152.out), (by repeat (first | (with_reducible first | exact HB.out | apply below_alloc | apply pw_below_drewN | apply below_drew1 | refine below_set ?_ GE152.out) | exact HB.out)), z_HO159, z_HO162, z_HO165, z_HO168, z_HO171, z_HO174, z_HO177, z_HO180, fun _ _ => Kd.V_mono (Kd.R_V (base' := w.heap.size) (Kd.R_types ((by (with_reducible repeat (first | apply Kd.R_alloc | apply Kd.R_drewN | apply Kd.R_drew)); exact HO183.out)) BK152.out (by decide))) (fun k_ hk => by first | trivial | exact hk | exact hk.2 | exact hk.1 | exact hk.1.2 | exact hk.1.1 | exact hk.2.1 | exact hk.2.2 | exact hk.2.2.2.2), fun h0_ => absurd ((hoff 20 (by kernel_rfl)).symm.trans h0_) (by decide), fun h0_ => absurd ((hoff 21 (by kernel_rfl)).symm.trans h0_) (by decide), Q_HM15_, Q_X15_, fun h0_ => absurd ((hoff 22 (by kernel_rfl)).symm.trans h0_) (by decide)⟩
                  refine steps_cons ?_ ?_
                  · rintro b a w' ⟨v158, v161, v164, v167, v170, v173, v176, v179, v182, v185, v188, m15_, m22_, ha, Q_BK152, Q_HB, Q_HO159, Q_HO162, Q_HO165, Q_HO168, Q_HO171, Q_HO174, Q_HO177, Q_HO180, Q_HO183, Q_HO186, Q_HO189, Q_HM15_, Q_X15_, Q_X22_⟩ hb_ hon hoff
                    refine ⟨_, rfl, fun K hK => ?_⟩
                    have e30 : a.tmps[30]? = some (v158) := by rw [ha]; exact putSel_on (e := (1, 30, v158)) 0 rfl rfl (hon 1 (by kernel_rfl)) rfl
                    have e33 : a.tmps[33]? = some (v161) := by rw [ha]; exact putSel_on (e := (4, 33, v161)) 2 rfl rfl (hon 4 (by kernel_rfl)) rfl
                    have e34 : a.tmps[34]? = some (v164) := by rw [ha]; exact putSel_on (e := (5, 34, v164)) 3 rfl rfl (hon 5 (by kernel_rfl)) rfl
                    have e37 : a.tmps[37]? = some (v167) := by rw [ha]; exact putSel_on (e := (8, 37, v167)) 5 rfl rfl (hon 8 (by kernel_rfl)) rfl
                    have e38 : a.tmps[38]? = some (v170) := by rw [ha]; exact putSel_on (e := (9, 38, v170)) 6 rfl rfl (hon 9 (by kernel_rfl)) rfl
                    have e41 : a.tmps[41]? = some (v173) := by rw [ha]; exact putSel_on (e := (12, 41, v173)) 8 rfl rfl (hon 12 (by kernel_rfl)) rfl
                    have e42 : a.tmps[42]? = some (v176) := by rw [ha]; exact putSel_on (e := (13, 42, v176)) 9 rfl rfl (hon 13 (by kernel_rfl)) rfl
                    have e44 : a.tmps[44]? = some (m15_) := by rw [ha]; exact putSel_on (e := (15, 44, m15_)) 11 rfl rfl (hon 15 (by kernel_rfl)) rfl
                    rw [Q_X15_ (hon 15 (by kernel_rfl))] at e44
                    have e48 : a.tmps[48]? = some (v182) := by rw [ha]; exact putSel_on (e := (19, 48, v182)) 14 rfl rfl (hon 19 (by kernel_rfl)) rfl
                    replace ha := Aside0.mk ha
                    have BK152 := Aside0.mk Q_BK152
                    have HB := Aside0.mk Q_HB
                    have HO159 := Aside0.mk (Q_HO159 (hon 1 (by kernel_rfl)) hb_)
                    have HO162 := Aside0.mk (Q_HO162 (hon 4 (by kernel_rfl)) hb_)
                    have HO165 := Aside0.mk (Q_HO165 (hon 5 (by kernel_rfl)) hb_)
                    have HO168 := Aside0.mk (Q_HO168 (hon 8 (by kernel_rfl)) hb_)
                    have HO171 := Aside0.mk (Q_HO171 (hon 9 (by kernel_rfl)) hb_)
                    have HO174 := Aside0.mk (Q_HO174 (hon 12 (by kernel_rfl)))
                    have HO177 := Aside0.mk (Q_HO177 (hon 13 (by kernel_rfl)) hb_)
                    have HO180 := Aside0.mk (Q_HO180 (hon 14 (by kernel_rfl)) hb_)
                    have HO183 := Aside0.mk (Q_HO183 (hon 19 (by kernel_rfl)) hb_)
                    have HM15_ := Aside0.mk (Q_HM15_ (hon 14 (by kernel_rfl)))
                    obtain ⟨Ao42, co42, eo42⟩ := Kd.V_slice HO159.out
                    (first | subst eo42 | (injection eo42 with f1_ f2_ f3_; have f4_ := f1_.symm; have f5_ := f3_.symm; clear f1_ f2_ f3_; subst f4_; subst f5_))
                    obtain ⟨Ao43, co43, eo43⟩ := Kd.V_slice HO162.out
                    (first | subst eo43 | (injection eo43 with f1_ f2_ f3_; have f4_ := f1_.symm; have f5_ := f3_.symm; clear f1_ f2_ f3_; subst f4_; subst f5_))
                    obtain ⟨Ao44, co44, eo44⟩ := Kd.V_slice HO165.out
                    (first | subst eo44 | (injection eo44 with f1_ f2_ f3_; have f4_ := f1_.symm; have f5_ := f3_.symm; clear f1_ f2_ f3_; subst f4_; subst f5_))
                    obtain ⟨Ao45, co45, eo45⟩ := Kd.V_slice HO168.out
                    (first | subst eo45 | (injection eo45 with f1_ f2_ f3_; have f4_ := f1_.symm; have f5_ := f3_.symm; clear f1_ f2_ f3_; subst f4_; subst f5_))
                    obtain ⟨Ao46, co46, eo46⟩ := Kd.V_slice HO171.out
                    (first | subst eo46 | (injection eo46 with f1_ f2_ f3_; have f4_ := f1_.symm; have f5_ := f3_.symm; clear f1_ f2_ f3_; subst f4_; subst f5_))
                    obtain ⟨Ao47, co47, eo47⟩ := Kd.V_slice HO174.out
                    (first | subst eo47 | (injection eo47 with f1_ f2_ f3_; have f4_ := f1_.symm; have f5_ := f3_.symm; clear f1_ f2_ f3_; subst f4_; subst f5_))
                    obtain ⟨Ao48, co48, eo48⟩ := Kd.V_slice HO177.out
                    (first | subst eo48 | (injection eo48 with f1_ f2_ f3_; have f4_ := f1_.symm; have f5_ := f3_.symm; clear f1_ f2_ f3_; subst f4_; subst f5_))
                    obtain ⟨Ao49, co49, eo49⟩ := Kd.V_slice HO180.out
                    (first | subst eo49 | (injection eo49 with f1_ f2_ f3_; have f4_ := f1_.symm; have f5_ := f3_.symm; clear f1_ f2_ f3_; subst f4_; subst f5_))
                    obtain ⟨Ao50, co50, eo50⟩ := Kd.V_slice HO183.out
                    (first | subst eo50 | (injection eo50 with f1_ f2_ f3_; have f4_ := f1_.symm; have f5_ := f3_.symm; clear f1_ f2_ f3_; subst f4_; subst f5_))
                    refine Kd.N_lit_step (Kd.slice 5 (Kd.int .u8)) _ 22 ?hg (N' := 49) ?hd (xs := ([y157, t160, y163, t166, y169, y172, y175, y178, y181] : List (List Int))) (inner := [.slice Ao42 y157.length co42, .slice Ao43 t160.length co43, .slice Ao44 y163.length co44, .slice Ao45 t166.length co45, .slice Ao46 y169.length co46, .slice Ao47 y172.length co47, .slice Ao48 y175.length co48, .slice Ao49 y178.length co49, .slice Ao50 y181.length co50]) (ok := (fun k_ => k_ ≠ gb152)) (okp := (fun k_ => k_ ≠ gb152)) ?hr ?hp (fun _ hk => hk) ((show ∀ k_, w'.heap.size ≤ k_ → (fun k_ => k_ ≠ gb152) k_ from fun k_ hk => Kd.freshB (g := gb152) (o := .cells #[.int .i64 a0_0, .int .i64 a0_1, .int .i64 a0_2, .bool true, .string a0_4] 46 (0, 0)) (by (with_reducible repeat (first | refine blk_drewN ?_ _ | refine blk_drew ?_ | refine blk_alloc ?_ _)); exact BK152.out) k_ hk) _ (Nat.le_refl _)) (Below.refl _ _) (Nat.le_refl _) (by simp) ?_; (case hd => rfl); (case hg => rfl); (case hr => first | (go_simp; done) | (go_simp; rfl)); (case hp => exact (Reps.one (show Kd.FK (Kd.slice 5 (Kd.int .u8)) _ _ y157 [.slice Ao42 y157.length co42] from (Kd.FK_slice_mk (Kd.V_reads' (Kd.V_mono (ok' := (fun k_ => k_ ≠ gb152)) (HO159.out) (fun k_ hk => by first | trivial | exact hk | exact hk.2 | exact hk.1 | exact hk.1.2 | exact hk.1.1 | exact hk.2.1 | exact hk.2.2 | exact hk.2.2.2.2))).2.1 (Kd.V_F (Kd.V_mono (ok' := (fun k_ => k_ ≠ gb152)) (HO159.out) (fun k_ hk => by first | trivial | exact hk | exact hk.2 | exact hk.1 | exact hk.1.2 | exact hk.1.1 | exact hk.2.1 | exact hk.2.2 | exact hk.2.2.2.2))))) (Reps.one (show Kd.FK (Kd.slice 5 (Kd.int .u8)) _ _ t160 [.slice Ao43 t160.length co43] from (Kd.FK_slice_mk (Kd.V_reads' (Kd.V_mono (ok' := (fun k_ => k_ ≠ gb152)) (HO162.out) (fun k_ hk => by first | trivial | exact hk | exact hk.2 | exact hk.1 | exact hk.1.2 | exact hk.1.1 | exact hk.2.1 | exact hk.2.2 | exact hk.2.2.2.2))).2.1 (Kd.V_F (Kd.V_mono (ok' := (fun k_ => k_ ≠ gb152)) (HO162.out) (fun k_ hk => by first | trivial | exact hk | exact hk.2 | exact hk.1 | exact hk.1.2 | exact hk.1.1 | exact hk.2.1 | exact hk.2.2 | exact hk.2.2.2.2))))) (Reps.one (show Kd.FK (Kd.slice 5 (Kd.int .u8)) _ _ y163 [.slice Ao44 y163.length co44] from (Kd.FK_slice_mk (Kd.V_reads' (Kd.V_mono (ok' := (fun k_ => k_ ≠ gb152)) (HO165.out) (fun k_ hk => by first | trivial | exact hk | exact hk.2 | exact hk.1 | exact hk.1.2 | exact hk.1.1 | exact hk.2.1 | exact hk.2.2 | exact hk.2.2.2.2))).2.1 (Kd.V_F (Kd.V_mono (ok' := (fun k_ => k_ ≠ gb152)) (HO165.out) (fun k_ hk => by first | trivial | exact hk | exact hk.2 | exact hk.1 | exact hk.1.2 | exact hk.1.1 | exact hk.2.1 | exact hk.2.2 | exact hk.2.2.2.2))))) (Reps.one (show Kd.FK (Kd.slice 5 (Kd.int .u8)) _ _ t166 [.slice Ao45 t166.length co45] from (Kd.FK_slice_mk (Kd.V_reads' (Kd.V_mono (ok' := (fun k_ => k_ ≠ gb152)) (HO168.out) (fun k_ hk => by first | trivial | exact hk | exact hk.2 | exact hk.1 | exact hk.1.2 | exact hk.1.1 | exact hk.2.1 | exact hk.2.2 | exact hk.2.2.2.2))).2.1 (Kd.V_F (Kd.V_mono (ok' := (fun k_ => k_ ≠ gb152)) (HO168.out) (fun k_ hk => by first | trivial | exact hk | exact hk.2 | exact hk.1 | exact hk.1.2 | exact hk.1.1 | exact hk.2.1 | exact hk.2.2 | exact hk.2.2.2.2))))) (Reps.one (show Kd.FK (Kd.slice 5 (Kd.int .u8)) _ _ y169 [.slice Ao46 y169.length co46] from (Kd.FK_slice_mk (Kd.V_reads' (Kd.V_mono (ok' := (fun k_ => k_ ≠ gb152)) (HO171.out) (fun k_ hk => by first | trivial | exact hk | exact hk.2 | exact hk.1 | exact hk.1.2 | exact hk.1.1 | exact hk.2.1 | exact hk.2.2 | exact hk.2.2.2.2))).2.1 (Kd.V_F (Kd.V_mono (ok' := (fun k_ => k_ ≠ gb152)) (HO171.out) (fun k_ hk => by first | trivial | exact hk | exact hk.2 | exact hk.1 | exact hk.1.2 | exact hk.1.1 | exact hk.2.1 | exact hk.2.2 | exact hk.2.2.2.2))))) (Reps.one (show Kd.FK (Kd.slice 5 (Kd.int .u8)) _ _ y172 [.slice Ao47 y172.length co47] from (Kd.FK_slice_mk (Kd.V_reads' (Kd.V_mono (ok' := (fun k_ => k_ ≠ gb152)) (HO174.out) (fun k_ hk => by first | exact hk.2.2.2.2.2.2.2.2 | exact hk | exact hk.2 | exact hk.1 | exact hk.1.2 | exact hk.1.1 | exact hk.2.1 | exact hk.2.2))).2.1 (Kd.V_F (Kd.V_mono (ok' := (fun k_ => k_ ≠ gb152)) (HO174.out) (fun k_ hk => by first | exact hk.2.2.2.2.2.2.2.2 | exact hk | exact hk.2 | exact hk.1 | exact hk.1.2 | exact hk.1.1 | exact hk.2.1 | exact hk.2.2))))) (Reps.one (show Kd.FK (Kd.slice 5 (Kd.int .u8)) _ _ y175 [.slice Ao48 y175.length co48] from (Kd.FK_slice_mk (Kd.V_reads' (Kd.V_mono (ok' := (fun k_ => k_ ≠ gb152)) (HO177.out) (fun k_ hk => by first | trivial | exact hk | exact hk.2 | exact hk.1 | exact hk.1.2 | exact hk.1.1 | exact hk.2.1 | exact hk.2.2 | exact hk.2.2.2.2))).2.1 (Kd.V_F (Kd.V_mono (ok' := (fun k_ => k_ ≠ gb152)) (HO177.out) (fun k_ hk => by first | trivial | exact hk | exact hk.2 | exact hk.1 | exact hk.1.2 | exact hk.1.1 | exact hk.2.1 | exact hk.2.2 | exact hk.2.2.2.2))))) (Reps.one (show Kd.FK (Kd.slice 5 (Kd.int .u8)) _ _ y178 [.slice Ao49 y178.length co49] from (Kd.FK_slice_mk (Kd.V_reads' (Kd.V_mono (ok' := (fun k_ => k_ ≠ gb152)) (HO180.out) (fun k_ hk => by first | trivial | exact hk | exact hk.2 | exact hk.1 | exact hk.1.2 | exact hk.1.1 | exact hk.2.1 | exact hk.2.2 | exact hk.2.2.2.2))).2.1 (Kd.V_F (Kd.V_mono (ok' := (fun k_ => k_ ≠ gb152)) (HO180.out) (fun k_ hk => by first | trivial | exact hk | exact hk.2 | exact hk.1 | exact hk.1.2 | exact hk.1.1 | exact hk.2.1 | exact hk.2.2 | exact hk.2.2.2.2))))) (Reps.one (show Kd.FK (Kd.slice 5 (Kd.int .u8)) _ _ y181 [.slice Ao50 y181.length co50] from (Kd.FK_slice_mk (Kd.V_reads' (Kd.V_mono (ok' := (fun k_ => k_ ≠ gb152)) (HO183.out) (fun k_ hk => by first | trivial | exact hk | exact hk.2 | exact hk.1 | exact hk.1.2 | exact hk.1.1 | exact hk.2.1 | exact hk.2.2 | exact hk.2.2.2.2))).2.1 (Kd.V_F (Kd.V_mono (ok' := (fun k_ => k_ ≠ gb152)) (HO183.out) (fun k_ hk => by first | trivial | exact hk | exact hk.2 | exact hk.1 | exact hk.1.2 | exact hk.1.1 | exact hk.2.1 | exact hk.2.2 | exact hk.2.2.2.2))))) (Reps.none _ _)))))))))))
                    intro v185 w51 ho52 hb hg_ hnew_
                    clear hg_ hnew_
                    (first | rw [← Ny184.out] at ho52 | (simp only [Int.reduceToNat] at ho52; rw [← Ny184.out] at ho52))
                    have n0_ := Aside0.mk (Kd.V_elder' (by (with_reducible repeat (first | apply Kd.V_alloc | apply Kd.V_drewN | apply Kd.V_drew)); exact HO174.out) (Kd.N_base ho52) hb)
                    have n1_ := Aside0.mk (Kd.N_lower ho52 (below_size (by repeat (first | (with_reducible first | exact HB.out | apply below_alloc | apply pw_below_drewN | apply below_drew1 | refine below_set ?_ GE152.out) | exact HB.out))))
                    have n2_ := Aside0.mk (blk_below (g := gb152) (o := .cells #[.int .i64 a0_0, .int .i64 a0_1, .int .i64 a0_2, .bool true, .string a0_4] 46 (0, 0)) (by (with_reducible repeat (first | refine blk_drewN ?_ _ | refine blk_drew ?_ | refine blk_alloc ?_ _)); exact BK152.out) hb)
                    have n3_ := Aside0.mk (below_step (by repeat (first | (with_reducible first | exact HB.out | apply below_alloc | apply pw_below_drewN | apply below_drew1 | refine below_set ?_ GE152.out) | exact HB.out)) hb)
                    clear HO174
                    clear BK152
                    clear HB
                    clear HO159
                    clear HO162
                    clear HO165
                    clear HO168
                    clear HO171
                    clear HO177
                    clear HO180
                    clear HO183
                    have HO174 := n0_
                    have HO186 := n1_
                    have BK152 := n2_
                    have HB := n3_
                    clear n0_ n1_ n2_ n3_
                    clear hb ho52
                    refine hK.out _ _ ⟨.slice Ao42 y157.length co42, .slice Ao43 t160.length co43, .slice Ao44 y163.length co44, .slice Ao45 t166.length co45, .slice Ao46 y169.length co46, .slice Ao47 y172.length co47, .slice Ao48 y175.length co48, .slice Ao49 y178.length co49, .slice Ao50 y181.length co50, v185, v188, m15_, m22_, (by rw [ha.out]; exact putSel_upk 15 hb_ rfl rfl rfl), (by (with_reducible repeat (first | refine blk_drewN ?_ _ | refine blk_drew ?_ | refine blk_alloc ?_ _)); exact BK152.out), (by repeat (first | (with_reducible first | exact HB.out | apply below_alloc | apply pw_below_drewN | apply below_drew1 | refine below_set ?_ GE152.out) | exact HB.out)), fun _ h1_ => absurd ((up_self b 20).symm.trans h1_) (by decide), fun _ h1_ => absurd ((up_self b 20).symm.trans h1_) (by decide), fun _ h1_ => absurd ((up_self b 20).symm.trans h1_) (by decide), fun _ h1_ => absurd ((up_self b 20).symm.trans h1_) (by decide), fun _ h1_ => absurd ((up_self b 20).symm.trans h1_) (by decide), fun _ => (by (with_reducible repeat (first | apply Kd.V_alloc | apply Kd.V_drewN | apply Kd.V_drew)); exact Kd.V_mono HO174.out (fun _ hk => by first | exact ⟨hk.2, hk.1.2.2.2.2.2.2.2.2⟩ | exact hk.2 | exact hk.1 | exact hk | exact hk.1.2 | exact hk.1.1 | exact hk.2.1 | exact hk.2.2)), fun _ h1_ => absurd ((up_self b 20).symm.trans h1_) (by decide), fun _ h1_ => absurd ((up_self b 20).symm.trans h1_) (by decide), fun _ h1_ => absurd ((up_self b 20).symm.trans h1_) (by decide), fun _ => (by (with_reducible repeat (first | apply Kd.N_alloc | apply Kd.N_drewN | apply Kd.N_drew)); exact HO186.out), fun h0_ => absurd ((hoff 21 (by kernel_rfl)).symm.trans h0_) (by decide), Q_HM15_, Q_X15_, fun h0_ => absurd ((hoff 22 (by kernel_rfl)).symm.trans h0_) (by decide)⟩
                  refine steps_cons ?_ ?_
                  · rintro b a w' ⟨v158, v161, v164, v167, v170, v173, v176, v179, v182, v185, v188, m15_, m22_, ha, Q_BK152, Q_HB, Q_HO159, Q_HO162, Q_HO165, Q_HO168, Q_HO171, Q_HO174, Q_HO177, Q_HO180, Q_HO183, Q_HO186, Q_HO189, Q_HM15_, Q_X15_, Q_X22_⟩ hb_ hon hoff
                    refine ⟨_, rfl, fun K hK => ?_⟩
                    have e49 : a.tmps[49]? = some (v185) := by rw [ha]; exact putSel_on (e := (20, 49, v185)) 15 rfl rfl (hon 20 (by kernel_rfl)) rfl
                    replace ha := Aside0.mk ha
                    have BK152 := Aside0.mk Q_BK152
                    have HB := Aside0.mk Q_HB
                    have HO174 := Aside0.mk (Q_HO174 (hon 12 (by kernel_rfl)))
                    have HO186 := Aside0.mk (Q_HO186 (hon 20 (by kernel_rfl)))
                    have HM15_ := Aside0.mk (Q_HM15_ (hon 14 (by kernel_rfl)))
                    obtain ⟨Ao53, co53, eo53⟩ := Kd.N_slice HO186.out
                    (first | subst eo53 | (injection eo53 with f1_ f2_ f3_; have f4_ := f1_.symm; have f5_ := f3_.symm; clear f1_ f2_ f3_; subst f4_; subst f5_))
                    refine goes_ Try.func74 (by kernel_rfl) rfl #[.slice Ao53 y184.length co53] (by rfl) rfl rfl (by first | (simp only [List.map_toArray, List.map_cons, List.map_nil, Act.eval, Array.getD_eq_getD_getElem?, Option.getD_some, e49]; done) | (simp only [List.map_toArray, List.map_cons, List.map_nil, Act.eval, Array.getD_eq_getD_getElem?, Option.getD_some, e49]; rfl)) ?_
                    with_reducible refine (slices_Concat_byte_byte.calls kj1 _ _ y184 t187 _ ?side1 ?side2 A22.out).mono ?_
                    (case side1 => repeat (first | exact (Kd.N_reads' HO186.out).2.2 | (with_reducible refine Kd.C_alloc ?_ _) | (with_reducible refine Kd.C_drewN ?_ _) | (with_reducible refine Kd.C_drew ?_)))
                    (case side2 => exact (Kd.N_reads' HO186.out).2.1)
                    rintro e w54 ⟨v188, rfl, ho0, hb⟩
                    refine ⟨_, rfl, ?_⟩
                    have n0_ := Aside0.mk (Kd.V_elder' (by (with_reducible repeat (first | apply Kd.V_alloc | apply Kd.V_drewN | apply Kd.V_drew)); exact HO174.out) (Kd.R_base ho0) hb)
                    have n1_ := Aside0.mk (Kd.N_elder' (by (with_reducible repeat (first | apply Kd.N_alloc | apply Kd.N_drewN | apply Kd.N_drew)); exact HO186.out) (Kd.R_base ho0) hb)
                    have n2_ := Aside0.mk (Kd.R_lower ho0 (below_size (by repeat (first | (with_reducible first | exact HB.out | apply below_alloc | apply pw_below_drewN | apply below_drew1 | refine below_set ?_ GE152.out) | exact HB.out))))
                    have n3_ := Aside0.mk (blk_below (g := gb152) (o := .cells #[.int .i64 a0_0, .int .i64 a0_1, .int .i64 a0_2, .bool true, .string a0_4] 46 (0, 0)) (by (with_reducible repeat (first | refine blk_drewN ?_ _ | refine blk_drew ?_ | refine blk_alloc ?_ _)); exact BK152.out) hb)
                    have n4_ := Aside0.mk (below_step (by repeat (first | (with_reducible first | exact HB.out | apply below_alloc | apply pw_below_drewN | apply below_drew1 | refine below_set ?_ GE152.out) | exact HB.out)) hb)
                    clear HO174
                    clear HO186
                    clear BK152
                    clear HB
                    have HO174 := n0_
                    have HO186 := n1_
                    have HO189 := n2_
                    have BK152 := n3_
                    have HB := n4_
                    clear n0_ n1_ n2_ n3_ n4_
                    (try clear hb)
                    (try clear hb2)
                    (try clear hk)
                    (try clear hi)
                    (try clear ho0)
                    refine hK.out _ _ ⟨v158, v161, v164, v167, v170, v173, v176, v179, v182, .slice Ao53 y184.length co53, v188, m15_, m22_, (by rw [ha.out]; exact putSel_upk 16 hb_ rfl rfl rfl), (by (with_reducible repeat (first | refine blk_drewN ?_ _ | refine blk_drew ?_ | refine blk_alloc ?_ _)); exact BK152.out), (by repeat (first | (with_reducible first | exact HB.out | apply below_alloc | apply pw_below_drewN | apply below_drew1 | refine below_set ?_ GE152.out) | exact HB.out)), fun _ h1_ => absurd ((hon 20 (by kernel_rfl)).symm.trans h1_) (by decide), fun _ h1_ => absurd ((hon 20 (by kernel_rfl)).symm.trans h1_) (by decide), fun _ h1_ => absurd ((hon 20 (by kernel_rfl)).symm.trans h1_) (by decide), fun _ h1_ => absurd ((hon 20 (by kernel_rfl)).symm.trans h1_) (by decide), fun _ h1_ => absurd ((hon 20 (by kernel_rfl)).symm.trans h1_) (by decide), fun _ => (by (with_reducible repeat (first | apply Kd.V_alloc | apply Kd.V_drewN | apply Kd.V_drew)); exact Kd.V_mono HO174.out (fun _ hk => by first | exact ⟨hk.1.1, ⟨hk.2, hk.1.2⟩⟩ | exact hk.2 | exact hk.1 | exact hk | exact hk.1.2 | exact hk.1.1 | exact hk.2.1 | exact hk.2.2)), fun _ h1_ => absurd ((hon 20 (by kernel_rfl)).symm.trans h1_) (by decide), fun _ h1_ => absurd ((hon 20 (by kernel_rfl)).symm.trans h1_) (by decide), fun _ h1_ => absurd ((hon 20 (by kernel_rfl)).symm.trans h1_) (by decide), fun _ => (by (with_reducible repeat (first | apply Kd.N_alloc | apply Kd.N_drewN | apply Kd.N_drew)); exact Kd.N_mono HO186.out (fun _ hk => by first | exact ⟨hk.2, hk.1⟩ | exact hk.2 | exact hk.1 | exact hk | exact hk.1.2 | exact hk.1.1 | exact hk.2.1 | exact hk.2.2)), fun _ => (by (with_reducible repeat (first | apply Kd.R_alloc | apply Kd.R_drewN | apply Kd.R_drew)); exact HO189.out), Q_HM15_, Q_X15_, fun h0_ => absurd ((hoff 22 (by kernel_rfl)).symm.trans h0_) (by decide)⟩
                  refine steps_cons ?_ ?_
                  · rintro b a w' ⟨v158, v161, v164, v167, v170, v173, v176, v179, v182, v185, v188, m15_, m22_, ha, Q_BK152, Q_HB, Q_HO159, Q_HO162, Q_HO165, Q_HO168, Q_HO171, Q_HO174, Q_HO177, Q_HO180, Q_HO183, Q_HO186, Q_HO189, Q_HM15_, Q_X15_, Q_X22_⟩ hb_ hon hoff
                    refine ⟨_, rfl, fun K hK => ?_⟩
                    have e50 : a.tmps[50]? = some (v188) := by rw [ha]; exact putSel_on (e := (21, 50, v188)) 16 rfl rfl (hon 21 (by kernel_rfl)) rfl
                    replace ha := Aside0.mk ha
                    have BK152 := Aside0.mk Q_BK152
                    have HB := Aside0.mk Q_HB
                    have HO174 := Aside0.mk (Q_HO174 (hon 12 (by kernel_rfl)))
                    have HO186 := Aside0.mk (Q_HO186 (hon 20 (by kernel_rfl)))
                    have HO189 := Aside0.mk (Q_HO189 (hon 21 (by kernel_rfl)))
                    have HM15_ := Aside0.mk (Q_HM15_ (hon 14 (by kernel_rfl)))
                    refine value_ (w1 := w') (v := v188) (by rfl) rfl ?_ ?_
                    · go_simp
                      (try simp only [i64_w])
                      try rfl
                    refine hK.out _ _ ⟨v158, v161, v164, v167, v170, v173, v176, v179, v182, v185, v188, m15_, (v188), (by rw [ha.out]; exact putSel_upk 17 hb_ rfl rfl rfl), Q_BK152, Q_HB, fun _ h1_ => absurd ((hon 20 (by kernel_rfl)).symm.trans h1_) (by decide), fun _ h1_ => absurd ((hon 20 (by kernel_rfl)).symm.trans h1_) (by decide), fun _ h1_ => absurd ((hon 20 (by kernel_rfl)).symm.trans h1_) (by decide), fun _ h1_ => absurd ((hon 20 (by kernel_rfl)).symm.trans h1_) (by decide), fun _ h1_ => absurd ((hon 20 (by kernel_rfl)).symm.trans h1_) (by decide), Q_HO174, fun _ h1_ => absurd ((hon 20 (by kernel_rfl)).symm.trans h1_) (by decide), fun _ h1_ => absurd ((hon 20 (by kernel_rfl)).symm.trans h1_) (by decide), fun _ h1_ => absurd ((hon 20 (by kernel_rfl)).symm.trans h1_) (by decide), Q_HO186, Q_HO189, Q_HM15_, Q_X15_, fun _ => rfl⟩
                  refine steps_cons ?_ ?_
                  · rintro b a w' ⟨v158, v161, v164, v167, v170, v173, v176, v179, v182, v185, v188, m15_, m22_, ha, Q_BK152, Q_HB, Q_HO159, Q_HO162, Q_HO165, Q_HO168, Q_HO171, Q_HO174, Q_HO177, Q_HO180, Q_HO183, Q_HO186, Q_HO189, Q_HM15_, Q_X15_, Q_X22_⟩ hb_ hon hoff
                    refine ⟨_, rfl, fun K hK => ?_⟩
                    replace ha := Aside0.mk ha
                    have BK152 := Aside0.mk Q_BK152
                    have HB := Aside0.mk Q_HB
                    have HO174 := Aside0.mk (Q_HO174 (hon 12 (by kernel_rfl)))
                    have HO186 := Aside0.mk (Q_HO186 (hon 20 (by kernel_rfl)))
                    have HO189 := Aside0.mk (Q_HO189 (hon 21 (by kernel_rfl)))
                    have HM15_ := Aside0.mk (Q_HM15_ (hon 14 (by kernel_rfl)))
                    refine value_ (w1 := w') (v := .int .i64 0) (by rfl) rfl ?_ ?_
                    · go_simp
                      (try simp only [i64_w])
                      try rfl
                    refine hK.out _ _ ⟨v158, v161, v164, v167, v170, v173, v176, v179, v182, v185, v188, m15_, m22_, (by rw [ha.out]; exact putSel_upk 18 hb_ rfl rfl rfl), Q_BK152, Q_HB, fun _ h1_ => absurd ((hon 20 (by kernel_rfl)).symm.trans h1_) (by decide), fun _ h1_ => absurd ((hon 20 (by kernel_rfl)).symm.trans h1_) (by decide), fun _ h1_ => absurd ((hon 20 (by kernel_rfl)).symm.trans h1_) (by decide), fun _ h1_ => absurd ((hon 20 (by kernel_rfl)).symm.trans h1_) (by decide), fun _ h1_ => absurd ((hon 20 (by kernel_rfl)).symm.trans h1_) (by decide), Q_HO174, fun _ h1_ => absurd ((hon 20 (by kernel_rfl)).symm.trans h1_) (by decide), fun _ h1_ => absurd ((hon 20 (by kernel_rfl)).symm.trans h1_) (by decide), fun _ h1_ => absurd ((hon 20 (by kernel_rfl)).symm.trans h1_) (by decide), Q_HO186, Q_HO189, Q_HM15_, Q_X15_, Q_X22_⟩
                  exact steps_nil
                rintro b a w54 hall ⟨v158, v161, v164, v167, v170, v173, v176, v179, v182, v185, v188, m15_, m22_, ha, Q_BK152, Q_HB, Q_HO159, Q_HO162, Q_HO165, Q_HO168, Q_HO171, Q_HO174, Q_HO177, Q_HO180, Q_HO183, Q_HO186, Q_HO189, Q_HM15_, Q_X15_, Q_X22_⟩
                clear BK152 HB
                have hb1_ := hall 1 (by kernel_rfl)
                have hb3_ := hall 3 (by kernel_rfl)
                have hb4_ := hall 4 (by kernel_rfl)
                have hb5_ := hall 5 (by kernel_rfl)
                have hb7_ := hall 7 (by kernel_rfl)
                have hb8_ := hall 8 (by kernel_rfl)
                have hb9_ := hall 9 (by kernel_rfl)
                have hb11_ := hall 11 (by kernel_rfl)
                have hb12_ := hall 12 (by kernel_rfl)
                have hb13_ := hall 13 (by kernel_rfl)
                have hb14_ := hall 14 (by kernel_rfl)
                have hb15_ := hall 15 (by kernel_rfl)
                have hb17_ := hall 17 (by kernel_rfl)
                have hb18_ := hall 18 (by kernel_rfl)
                have hb19_ := hall 19 (by kernel_rfl)
                have hb20_ := hall 20 (by kernel_rfl)
                have hb21_ := hall 21 (by kernel_rfl)
                have hb22_ := hall 22 (by kernel_rfl)
                have hb23_ := hall 23 (by kernel_rfl)
                subst ha
                obtain rfl := Q_X15_ hb15_
                obtain rfl := Q_X22_ hb22_
                simp only [putSel, hb1_, hb3_, hb4_, hb5_, hb7_, hb8_, hb9_, hb11_, hb12_, hb13_, hb14_, hb15_, hb17_, hb18_, hb19_, hb20_, hb21_, hb22_, hb23_, if_true, Act.put, List.setIfInBounds_toArray, List.set_cons_zero, List.set_cons_succ]
                have BK152 := Aside0.mk Q_BK152
                clear Q_BK152
                have HB := Aside0.mk Q_HB
                clear Q_HB
                clear Q_HO159
                clear Q_HO162
                clear Q_HO165
                clear Q_HO168
                clear Q_HO171
                have HO174 := Aside0.mk (Q_HO174 hb12_)
                clear Q_HO174
                clear Q_HO177
                clear Q_HO180
                clear Q_HO183
                have HO186 := Aside0.mk (Q_HO186 hb20_)
                clear Q_HO186
                have HO189 := Aside0.mk (Q_HO189 hb21_)
                clear Q_HO189
                have HM15_ := Aside0.mk (Q_HM15_ hb14_)
                clear Q_HM15_
                clear hall hb1_ hb3_ hb4_ hb5_ hb7_ hb8_ hb9_ hb11_ hb12_ hb13_ hb14_ hb15_ hb17_ hb18_ hb19_ hb20_ hb21_ hb22_ hb23_
                try go_wp2
                go_ret2
                exact ⟨_, by first | rfl | (simp [errW_none, errW_some] <;> rfl) | (simp [*, errW_none, errW_some] <;> rfl), by (with_reducible repeat (first | apply Kd.R_alloc | apply Kd.R_drewN | apply Kd.R_drew)); exact HO189.out, by repeat (first | (with_reducible first | exact HB.out | apply below_alloc | apply pw_below_drewN | apply below_drew1 | refine below_set ?_ GE152.out) | exact HB.out)⟩
              · rw [if_neg c21] at H
                exact absurd H (by simp)
            · rw [if_neg c20] at H
              exact absurd H (by simp)
          · rw [if_neg c18] at H
            exact absurd H (by simp)
        · replace c16 := Bool.eq_false_iff.mpr c16
          subst c16
          have H1 : ((impl_be.f kj1 a0_0 4).bind fun t193 => (if 8 ≤ 281474976710656 then ((impl_be.f kj1 a0_1 4).bind fun t199 => (if a0_4.size ≤ 140737488355328 then (if 202 ≤ 281474976710656 then ((slices_Concat_byte_byte.f kj1 (([(([1, 1, 6, 0] : List Int)), t193, (List.replicate 8 0), t199, (List.replicate 8 0), (bytesOf a0_4), (List.replicate 202 0), (([99, 130, 83, 99] : List Int)), (([53, 1, (a0_2) % 256, 255] : List Int))] : List (List Int)))).bind fun t220 => (some (t220, 0))) else (none)) else (none))) else (none))) = some (r1, r2) := by rw [if_neg (show ¬ (false = true) by decide)] at H; exact H
          clear H
          have H := H1
          clear H1
          obtain ⟨y190, hy190⟩ : ∃ y_ : List Int, y_ = (([1, 1, 6, 0] : List Int)) := ⟨_, rfl⟩
          replace H : ((impl_be.f kj1 a0_0 4).bind fun t193 => (if 8 ≤ 281474976710656 then ((impl_be.f kj1 a0_1 4).bind fun t199 => (if a0_4.size ≤ 140737488355328 then (if 202 ≤ 281474976710656 then ((slices_Concat_byte_byte.f kj1 (([y190, t193, (List.replicate 8 0), t199, (List.replicate 8 0), (bytesOf a0_4), (List.replicate 202 0), (([99, 130, 83, 99] : List Int)), (([53, 1, (a0_2) % 256, 255] : List Int))] : List (List Int)))).bind fun t220 => (some (t220, 0))) else (none)) else (none))) else (none))) = some (r1, r2) := by first | (rw [hy190]; with_reducible exact H) | (have H2_ := (Option.bind_some _ _).symm.trans H; rw [hy190]; with_reducible exact H2_) | (have H2_ := (Option.bind_some _ _).symm.trans H; with_reducible exact H2_) | with_reducible exact H | (rw [hy190]; exact H) | exact H
          have Ny190 := Aside0.mk hy190
          clear hy190
          replace H := Option.bind_eq_some_iff.mp H
          obtain ⟨t193, A550, H⟩ := H
          replace H : (if 8 ≤ 281474976710656 then ((impl_be.f kj1 a0_1 4).bind fun t199 => (if a0_4.size ≤ 140737488355328 then (if 202 ≤ 281474976710656 then ((slices_Concat_byte_byte.f kj1 (([y190, t193, (List.replicate 8 0), t199, (List.replicate 8 0), (bytesOf a0_4), (List.replicate 202 0), (([99, 130, 83, 99] : List Int)), (([53, 1, (a0_2) % 256, 255] : List Int))] : List (List Int)))).bind fun t220 => (some (t220, 0))) else (none)) else (none))) else (none)) = some (r1, r2) := H
          have A55 := Aside0.mk A550
          clear A550
          by_cases c56 : 8 ≤ 281474976710656
          · rw [if_pos c56] at H
            have c56b0 := eq_true c56
            have c56b1 : decide (8 ≤ 281474976710656) = true := decide_eq_true c56
            clear c56
            obtain ⟨y196, hy196⟩ : ∃ y_ : List Int, y_ = (List.replicate 8 0) := ⟨_, rfl⟩
            replace H : ((impl_be.f kj1 a0_1 4).bind fun t199 => (if a0_4.size ≤ 140737488355328 then (if 202 ≤ 281474976710656 then ((slices_Concat_byte_byte.f kj1 (([y190, t193, y196, t199, (List.replicate 8 0), (bytesOf a0_4), (List.replicate 202 0), (([99, 130, 83, 99] : List Int)), (([53, 1, (a0_2) % 256, 255] : List Int))] : List (List Int)))).bind fun t220 => (some (t220, 0))) else (none)) else (none))) = some (r1, r2) := by first | (rw [hy196]; with_reducible exact H) | (have H2_ := (Option.bind_some _ _).symm.trans H; rw [hy196]; with_reducible exact H2_) | (have H2_ := (Option.bind_some _ _).symm.trans H; with_reducible exact H2_) | with_reducible exact H | (rw [hy196]; exact H) | exact H
            have Ny196 := Aside0.mk hy196
            clear hy196
            replace H := Option.bind_eq_some_iff.mp H
            obtain ⟨t199, A570, H⟩ := H
            replace H : (if a0_4.size ≤ 140737488355328 then (if 202 ≤ 281474976710656 then ((slices_Concat_byte_byte.f kj1 (([y190, t193, y196, t199, (List.replicate 8 0), (bytesOf a0_4), (List.replicate 202 0), (([99, 130, 83, 99] : List Int)), (([53, 1, (a0_2) % 256, 255] : List Int))] : List (List Int)))).bind fun t220 => (some (t220, 0))) else (none)) else (none)) = some (r1, r2) := H
            have A57 := Aside0.mk A570
            clear A570
            obtain ⟨y202, hy202⟩ : ∃ y_ : List Int, y_ = (List.replicate 8 0) := ⟨_, rfl⟩
            replace H : (if a0_4.size ≤ 140737488355328 then (if 202 ≤ 281474976710656 then ((slices_Concat_byte_byte.f kj1 (([y190, t193, y196, t199, y202, (bytesOf a0_4), (List.replicate 202 0), (([99, 130, 83, 99] : List Int)), (([53, 1, (a0_2) % 256, 255] : List Int))] : List (List Int)))).bind fun t220 => (some (t220, 0))) else (none)) else (none)) = some (r1, r2) := by first | (rw [hy202]; with_reducible exact H) | (have H2_ := (Option.bind_some _ _).symm.trans H; rw [hy202]; with_reducible exact H2_) | (have H2_ := (Option.bind_some _ _).symm.trans H; with_reducible exact H2_) | with_reducible exact H | (rw [hy202]; exact H) | exact H
            have Ny202 := Aside0.mk hy202
            clear hy202
            by_cases c58 : a0_4.size ≤ 140737488355328
            · rw [if_pos c58] at H
              have c58b0 := eq_true c58
              have c58b1 : decide (a0_4.size ≤ 140737488355328) = true := decide_eq_true c58
              clear c58
              obtain ⟨y205, hy205⟩ : ∃ y_ : List Int, y_ = (bytesOf a0_4) := ⟨_, rfl⟩
              replace H : (if 202 ≤ 281474976710656 then ((slices_Concat_byte_byte.f kj1 (([y190, t193, y196, t199, y202, y205, (List.replicate 202 0), (([99, 130, 83, 99] : List Int)), (([53, 1, (a0_2) % 256, 255] : List Int))] : List (List Int)))).bind fun t220 => (some (t220, 0))) else (none)) = some (r1, r2) := by first | (rw [hy205]; with_reducible exact H) | (have H2_ := (Option.bind_some _ _).symm.trans H; rw [hy205]; with_reducible exact H2_) | (have H2_ := (Option.bind_some _ _).symm.trans H; with_reducible exact H2_) | with_reducible exact H | (rw [hy205]; exact H) | exact H
              have Ny205 := Aside0.mk hy205
              clear hy205
              by_cases c59 : 202 ≤ 281474976710656
              · rw [if_pos c59] at H
                have c59b0 := eq_true c59
                have c59b1 : decide (202 ≤ 281474976710656) = true := decide_eq_true c59
                clear c59
                obtain ⟨y208, hy208⟩ : ∃ y_ : List Int, y_ = (List.replicate 202 0) := ⟨_, rfl⟩
                replace H : ((slices_Concat_byte_byte.f kj1 (([y190, t193, y196, t199, y202, y205, y208, (([99, 130, 83, 99] : List Int)), (([53, 1, (a0_2) % 256, 255] : List Int))] : List (List Int)))).bind fun t220 => (some (t220, 0))) = some (r1, r2) := by first | (rw [hy208]; with_reducible exact H) | (have H2_ := (Option.bind_some _ _).symm.trans H; rw [hy208]; with_reducible exact H2_) | (have H2_ := (Option.bind_some _ _).symm.trans H; with_reducible exact H2_) | with_reducible exact H | (rw [hy208]; exact H) | exact H
                have Ny208 := Aside0.mk hy208
                clear hy208
                obtain ⟨y211, hy211⟩ : ∃ y_ : List Int, y_ = (([99, 130, 83, 99] : List Int)) := ⟨_, rfl⟩
                replace H : ((slices_Concat_byte_byte.f kj1 (([y190, t193, y196, t199, y202, y205, y208, y211, (([53, 1, (a0_2) % 256, 255] : List Int))] : List (List Int)))).bind fun t220 => (some (t220, 0))) = some (r1, r2) := by first | (rw [hy211]; with_reducible exact H) | (have H2_ := (Option.bind_some _ _).symm.trans H; rw [hy211]; with_reducible exact H2_) | (have H2_ := (Option.bind_some _ _).symm.trans H; with_reducible exact H2_) | with_reducible exact H | (rw [hy211]; exact H) | exact H
                have Ny211 := Aside0.mk hy211
                clear hy211
                obtain ⟨y214, hy214⟩ : ∃ y_ : List Int, y_ = (([53, 1, (a0_2) % 256, 255] : List Int)) := ⟨_, rfl⟩
                replace H : ((slices_Concat_byte_byte.f kj1 (([y190, t193, y196, t199, y202, y205, y208, y211, y214] : List (List Int)))).bind fun t220 => (some (t220, 0))) = some (r1, r2) := by first | (rw [hy214]; with_reducible exact H) | (have H2_ := (Option.bind_some _ _).symm.trans H; rw [hy214]; with_reducible exact H2_) | (have H2_ := (Option.bind_some _ _).symm.trans H; with_reducible exact H2_) | with_reducible exact H | (rw [hy214]; exact H) | exact H
                have Ny214 := Aside0.mk hy214
                clear hy214
                obtain ⟨y217, hy217⟩ : ∃ y_ : List (List Int), y_ = (([y190, t193, y196, t199, y202, y205, y208, y211, y214] : List (List Int))) := ⟨_, rfl⟩
                replace H : ((slices_Concat_byte_byte.f kj1 y217).bind fun t220 => (some (t220, 0))) = some (r1, r2) := by first | (rw [hy217]; with_reducible exact H) | (have H2_ := (Option.bind_some _ _).symm.trans H; rw [hy217]; with_reducible exact H2_) | (have H2_ := (Option.bind_some _ _).symm.trans H; with_reducible exact H2_) | with_reducible exact H | (rw [hy217]; exact H) | exact H
                have Ny217 := Aside0.mk hy217
                clear hy217
                replace H := Option.bind_eq_some_iff.mp H
                obtain ⟨t220, A600, H⟩ := H
                replace H : (some (t220, 0)) = some (r1, r2) := H
                have A60 := Aside0.mk A600
                clear A600
                simp only [Option.some.injEq, Prod.mk.injEq] at H
                obtain ⟨rfl, rfl⟩ := H
                have hcz61_0 : wc.cell? ⟨gb152, 0, none⟩ = some (.int .i64 a0_0) := (blk_cell BK152.out 0).trans rfl
                have hcz61_1 : wc.cell? ⟨gb152, 1, none⟩ = some (.int .i64 a0_1) := (blk_cell BK152.out 1).trans rfl
                have hcz61_2 : wc.cell? ⟨gb152, 2, none⟩ = some (.int .i64 a0_2) := (blk_cell BK152.out 2).trans rfl
                have hcz61_3 : wc.cell? ⟨gb152, 3, none⟩ = some (.bool false) := (blk_cell BK152.out 3).trans rfl
                have hcz61_4 : wc.cell? ⟨gb152, 4, none⟩ = some (.string a0_4) := (blk_cell BK152.out 4).trans rfl
                have hfz61_0 := blk_frozen BK152.out 0
                have hfz61_1 := blk_frozen BK152.out 1
                have hfz61_2 := blk_frozen BK152.out 2
                have hfz61_3 := blk_frozen BK152.out 3
                have hfz61_4 := blk_frozen BK152.out 4
                try go_wp2
                have n0_ := Aside0.mk (blk_drew BK152.out)
                have n1_ := Aside0.mk (below_drew1 HB.out)
                clear BK152
                clear HB
                have BK152 := n0_
                have HB := n1_
                clear n0_ n1_
                refine start_ (n := 24) (S := fun w' => True) (ds := []) #[false, false, false, false, false, false, false, false, false, false, false, false, false, false, false, false, false, false, false, false, false, false, false, false] (by kernel_rfl) rfl rfl trivial (fun hHeld => ?_); refine with_tabW impl_DhcpBytes.tab6 impl_DhcpBytes.bits6 (fun HT_ HW_ => ?_)
                generalize wc.drew = w62 at BK152 HB hHeld ⊢
                refine pure_ (i := 0) (N := some 29) (v := ?_) (a' := ?_) #[true, false, false, false, false, false, false, false, false, false, false, false, false, false, false, false, false, false, false, false, false, false, false, false] rfl rfl (any_of HT_.out (by kernel_rfl)) (fun _ _ _ h => h) (Or.inl ⟨by rfl, ?_⟩) ?_ ?_
                rotate_left
                · intro w'
                  go_simp
                  with_reducible rfl
                rotate_left
                · simp only [Act.put, List.setIfInBounds_toArray, List.set_cons_zero, List.set_cons_succ, i64_w, i32_w]
                  rfl
                refine pure_ (i := 2) (N := some 31) (v := ?_) (a' := ?_) #[true, false, true, false, false, false, false, false, false, false, false, false, false, false, false, false, false, false, false, false, false, false, false, false] rfl rfl (any_of HT_.out (by kernel_rfl)) (fun _ _ _ h => h) (Or.inl ⟨by rfl, ?_⟩) ?_ ?_
                rotate_left
                · intro w'
                  go_simp
                  with_reducible rfl
                rotate_left
                · simp only [Act.put, List.setIfInBounds_toArray, List.set_cons_zero, List.set_cons_succ, i64_w, i32_w]
                  rfl
                refine pure_ (i := 6) (N := some 35) (v := ?_) (a' := ?_) #[true, false, true, false, false, false, true, false, false, false, false, false, false, false, false, false, false, false, false, false, false, false, false, false] rfl rfl (any_of HT_.out (by kernel_rfl)) (fun _ _ _ h => h) (Or.inl ⟨by rfl, ?_⟩) ?_ ?_
                rotate_left
                · intro w'
                  go_simp
                  with_reducible rfl
                rotate_left
                · simp only [Act.put, List.setIfInBounds_toArray, List.set_cons_zero, List.set_cons_succ, i64_w, i32_w]
                  rfl
                refine pure_ (i := 10) (N := some 39) (v := ?_) (a' := ?_) #[true, false, true, false, false, false, true, false, false, false, true, false, false, false, false, false, false, false, false, false, false, false, false, false] rfl rfl (any_of HT_.out (by kernel_rfl)) (fun _ _ _ h => h) (Or.inl ⟨by rfl, ?_⟩) ?_ ?_
                rotate_left
                · intro w'
                  go_simp
                  with_reducible rfl
                rotate_left
                · simp only [Act.put, List.setIfInBounds_toArray, List.set_cons_zero, List.set_cons_succ, i64_w, i32_w]
                  rfl
                refine pure_ (i := 16) (N := some 45) (v := ?_) (a' := ?_) #[true, false, true, false, false, false, true, false, false, false, true, false, false, false, false, false, true, false, false, false, false, false, false, false] rfl rfl (any_of HT_.out (by kernel_rfl)) (fun _ _ _ h => h) (Or.inl ⟨by rfl, ?_⟩) ?_ ?_
                rotate_left
                · intro w'
                  go_simp
                  with_reducible rfl
                rotate_left
                · simp only [Act.put, List.setIfInBounds_toArray, List.set_cons_zero, List.set_cons_succ, i64_w, i32_w]
                  rfl
                refine inv_at [1, 3, 4, 5, 7, 8, 9, 11, 12, 13, 14, 15, 17, 18, 19, 20, 21, 22, 23] (fun a0_ b a w' => ∃ (v191 : Value) (v194 : Value) (v197 : Value) (v200 : Value) (v203 : Value) (v206 : Value) (v209 : Value) (v212 : Value) (v215 : Value) (v218 : Value) (v221 : Value) (m15_ : Value) (m22_ : Value), a = putSel a0_ b [(1, 30, v191), (3, 32, .int .i64 a0_0), (4, 33, v194), (5, 34, v197), (7, 36, .int .i64 a0_1), (8, 37, v200), (9, 38, v203), (11, 40, .string a0_4), (12, 41, v206), (13, 42, v209), (14, 43, v212), (15, 44, m15_), (17, 46, .int .i64 a0_2), (18, 47, .int .u8 ((a0_2) % 256)), (19, 48, v215), (20, 49, v218), (21, 50, v221), (22, 2, m22_), (23, 3, .int .i64 0)] ∧ (w'.heap[gb152]? = some (.cells #[.int .i64 a0_0, .int .i64 a0_1, .int .i64 a0_2, .bool false, .string a0_4] 46 (0, 0))) ∧ (Below w.heap.size w w') ∧ (b 1 = true → b 20 = false → Kd.V (Kd.int .u8) 5 w' w.heap.size (fun k_ => k_ ≠ gb152) v191 y190) ∧ (b 4 = true → b 20 = false → Kd.V (Kd.int .u8) 5 w' w.heap.size (fun k_ => k_ ≠ gb152) v194 t193) ∧ (b 5 = true → b 20 = false → Kd.V (Kd.int .u8) 5 w' w.heap.size (fun k_ => k_ ≠ gb152) v197 y196) ∧ (b 8 = true → b 20 = false → Kd.V (Kd.int .u8) 5 w' w.heap.size (fun k_ => k_ ≠ gb152) v200 t199) ∧ (b 9 = true → b 20 = false → Kd.V (Kd.int .u8) 5 w' w.heap.size (fun k_ => k_ ≠ gb152) v203 y202) ∧ (b 12 = true → Kd.V (Kd.int .u8) 5 w' w.heap.size (fun k_ => k_ ≠ gb152) v206 y205) ∧ (b 13 = true → b 20 = false → Kd.V (Kd.int .u8) 5 w' w.heap.size (fun k_ => k_ ≠ gb152) v209 y208) ∧ (b 14 = true → b 20 = false → Kd.V (Kd.int .u8) 5 w' w.heap.size (fun k_ => k_ ≠ gb152) v212 y211) ∧ (b 19 = true → b 20 = false → Kd.V (Kd.int .u8) 5 w' w.heap.size (fun k_ => k_ ≠ gb152) v215 y214) ∧ (b 20 = true → Kd.N (Kd.slice 5 (Kd.int .u8)) 22 w' w.heap.size (fun k_ => k_ ≠ gb152) v218 y217) ∧ (b 21 = true → Kd.R (Kd.int .u8) 5 w' w.heap.size (fun _ => True) v221 t220) ∧ (b 14 = true → ∃ g_, (v212 : Value).ownBlock = some g_ ∧ w.heap.size ≤ g_ ∧ g_ ≠ gb152) ∧ (b 15 = true → (m15_ : Value) = v212) ∧ (b 22 = true → (m22_ : Value) = v221)) HT_.out HW_.out (by kernel_rfl) (by kernel_rfl) ?_ ?_ ?_
                · exact ⟨.bool false, .bool false, .bool false, .bool false, .bool false, .bool false, .bool false, .bool false, .bool false, .bool false, .bool false, .bool false, .bool false, by simp only [putSel, Bool.false_eq_true, if_false], BK152.out, HB.out, fun h_ => absurd h_ (by decide), fun h_ => absurd h_ (by decide), fun h_ => absurd h_ (by decide), fun h_ => absurd h_ (by decide), fun h_ => absurd h_ (by decide), fun h_ => absurd h_ (by decide), fun h_ => absurd h_ (by decide), fun h_ => absurd h_ (by decide), fun h_ => absurd h_ (by decide), fun h_ => absurd h_ (by decide), fun h_ => absurd h_ (by decide), fun h_ => absurd h_ (by decide), fun h_ => absurd h_ (by decide), fun h_ => absurd h_ (by decide)⟩
                · skip
                  clear BK152 HB
                  refine steps_cons ?_ ?_
                  · rintro b a w' ⟨v191, v194, v197, v200, v203, v206, v209, v212, v215, v218, v221, m15_, m22_, ha, Q_BK152, Q_HB, Q_HO192, Q_HO195, Q_HO198, Q_HO201, Q_HO204, Q_HO207, Q_HO210, Q_HO213, Q_HO216, Q_HO219, Q_HO222, Q_HM15_, Q_X15_, Q_X22_⟩ hb_ hon hoff
                    refine ⟨_, rfl, fun K hK => ?_⟩
                    have e29 : a.tmps[29]? = some (.int .u8 1) := by rw [ha]; exact (putSel_off rfl).trans rfl
                    replace ha := Aside0.mk ha
                    have BK152 := Aside0.mk Q_BK152
                    have HB := Aside0.mk Q_HB
                    refine Kd.R_lit_step (Kd.int .u8) _ 5 ?hg (N := 30) ?hd (xs := ([1, 1, 6, 0] : List Int)) (inner := [.int .u8 1, .int .u8 1, .int .u8 6, .int .u8 0]) (ok := fun _ => True) (okp := fun _ => True) ?hr ?hp (fun _ hk => hk) trivial (Below.refl _ _) (Nat.le_refl _) (by simp) ?_; (case hd => rfl); (case hg => rfl); (case hr => first | (go_simp; done) | (go_simp; rfl)); (case hp => exact (Reps.one (show Kd.M (Kd.int .u8) _ _ _ 1 [.int .u8 1] from rfl) (Reps.one (show Kd.M (Kd.int .u8) _ _ _ 1 [.int .u8 1] from rfl) (Reps.one (show Kd.M (Kd.int .u8) _ _ _ 6 [.int .u8 6] from rfl) (Reps.one (show Kd.M (Kd.int .u8) _ _ _ 0 [.int .u8 0] from rfl) (Reps.none _ _))))))
                    intro v191 w63 ho64 hb hg_ hnew_
                    clear hg_ hnew_
                    (first | rw [← Ny190.out] at ho64 | (simp only [Int.reduceToNat] at ho64; rw [← Ny190.out] at ho64))
                    have n0_ := Aside0.mk (Kd.R_lower ho64 (below_size (by repeat (first | (with_reducible first | exact HB.out | apply below_alloc | apply pw_below_drewN | apply below_drew1 | refine below_set ?_ GE152.out) | exact HB.out))))
                    have n1_ := Aside0.mk (blk_below (g := gb152) (o := .cells #[.int .i64 a0_0, .int .i64 a0_1, .int .i64 a0_2, .bool false, .string a0_4] 46 (0, 0)) (by (with_reducible repeat (first | refine blk_drewN ?_ _ | refine blk_drew ?_ | refine blk_alloc ?_ _)); exact BK152.out) hb)
                    have n2_ := Aside0.mk (below_step (by repeat (first | (with_reducible first | exact HB.out | apply below_alloc | apply pw_below_drewN | apply below_drew1 | refine below_set ?_ GE152.out) | exact HB.out)) hb)
                    have z_HO195 := fun (h0_ : b 4 = true) (h1_ : b 20 = false) => (show Kd.V (Kd.int .u8) 5 w63 w.heap.size (fun k_ => k_ ≠ gb152) v194 t193 from by first | exact (Kd.V_elder' (by (with_reducible repeat (first | apply Kd.V_alloc | apply Kd.V_drewN | apply Kd.V_drew)); exact (Q_HO195 h0_ h1_)) (Kd.R_base ho64) hb) | exact Kd.V_mono (Kd.V_elder' (by (with_reducible repeat (first | apply Kd.V_alloc | apply Kd.V_drewN | apply Kd.V_drew)); exact (Q_HO195 h0_ h1_)) (Kd.R_base ho64) hb) (fun _ h_ => by first | trivial | exact h_ | exact h_.1))
                    have z_HO198 := fun (h0_ : b 5 = true) (h1_ : b 20 = false) => (show Kd.V (Kd.int .u8) 5 w63 w.heap.size (fun k_ => k_ ≠ gb152) v197 y196 from by first | exact (Kd.V_elder' (by (with_reducible repeat (first | apply Kd.V_alloc | apply Kd.V_drewN | apply Kd.V_drew)); exact (Q_HO198 h0_ h1_)) (Kd.R_base ho64) hb) | exact Kd.V_mono (Kd.V_elder' (by (with_reducible repeat (first | apply Kd.V_alloc | apply Kd.V_drewN | apply Kd.V_drew)); exact (Q_HO198 h0_ h1_)) (Kd.R_base ho64) hb) (fun _ h_ => by first | trivial | exact h_ | exact h_.1))
                    have z_HO201 := fun (h0_ : b 8 = true) (h1_ : b 20 = false) => (show Kd.V (Kd.int .u8) 5 w63 w.heap.size (fun k_ => k_ ≠ gb152) v200 t199 from by first | exact (Kd.V_elder' (by (with_reducible repeat (first | apply Kd.V_alloc | apply Kd.V_drewN | apply Kd.V_drew)); exact (Q_HO201 h0_ h1_)) (Kd.R_base ho64) hb) | exact Kd.V_mono (Kd.V_elder' (by (with_reducible repeat (first | apply Kd.V_alloc | apply Kd.V_drewN | apply Kd.V_drew)); exact (Q_HO201 h0_ h1_)) (Kd.R_base ho64) hb) (fun _ h_ => by first | trivial | exact h_ | exact h_.1))
                    have z_HO204 := fun (h0_ : b 9 = true) (h1_ : b 20 = false) => (show Kd.V (Kd.int .u8) 5 w63 w.heap.size (fun k_ => k_ ≠ gb152) v203 y202 from by first | exact (Kd.V_elder' (by (with_reducible repeat (first | apply Kd.V_alloc | apply Kd.V_drewN | apply Kd.V_drew)); exact (Q_HO204 h0_ h1_)) (Kd.R_base ho64) hb) | exact Kd.V_mono (Kd.V_elder' (by (with_reducible repeat (first | apply Kd.V_alloc | apply Kd.V_drewN | apply Kd.V_drew)); exact (Q_HO204 h0_ h1_)) (Kd.R_base ho64) hb) (fun _ h_ => by first | trivial | exact h_ | exact h_.1))
                    have z_HO207 := fun (h0_ : b 12 = true) => (show Kd.V (Kd.int .u8) 5 w63 w.heap.size (fun k_ => k_ ≠ gb152) v206 y205 from by first | exact (Kd.V_elder' (by (with_reducible repeat (first | apply Kd.V_alloc | apply Kd.V_drewN | apply Kd.V_drew)); exact (Q_HO207 h0_)) (Kd.R_base ho64) hb) | exact Kd.V_mono (Kd.V_elder' (by (with_reducible repeat (first | apply Kd.V_alloc | apply Kd.V_drewN | apply Kd.V_drew)); exact (Q_HO207 h0_)) (Kd.R_base ho64) hb) (fun _ h_ => by first | trivial | exact h_ | exact h_.1))
                    have z_HO210 := fun (h0_ : b 13 = true) (h1_ : b 20 = false) => (show Kd.V (Kd.int .u8) 5 w63 w.heap.size (fun k_ => k_ ≠ gb152) v209 y208 from by first | exact (Kd.V_elder' (by (with_reducible repeat (first | apply Kd.V_alloc | apply Kd.V_drewN | apply Kd.V_drew)); exact (Q_HO210 h0_ h1_)) (Kd.R_base ho64) hb) | exact Kd.V_mono (Kd.V_elder' (by (with_reducible repeat (first | apply Kd.V_alloc | apply Kd.V_drewN | apply Kd.V_drew)); exact (Q_HO210 h0_ h1_)) (Kd.R_base ho64) hb) (fun _ h_ => by first | trivial | exact h_ | exact h_.1))
                    have z_HO213 := fun (h0_ : b 14 = true) (h1_ : b 20 = false) => (show Kd.V (Kd.int .u8) 5 w63 w.heap.size (fun k_ => k_ ≠ gb152) v212 y211 from by first | exact (Kd.V_elder' (by (with_reducible repeat (first | apply Kd.V_alloc | apply Kd.V_drewN | apply Kd.V_drew)); exact (Q_HO213 h0_ h1_)) (Kd.R_base ho64) hb) | exact Kd.V_mono (Kd.V_elder' (by (with_reducible repeat (first | apply Kd.V_alloc | apply Kd.V_drewN | apply Kd.V_drew)); exact (Q_HO213 h0_ h1_)) (Kd.R_base ho64) hb) (fun _ h_ => by first | trivial | exact h_ | exact h_.1))
                    have z_HO216 := fun (h0_ : b 19 = true) (h1_ : b 20 = false) => (show Kd.V (Kd.int .u8) 5 w63 w.heap.size (fun k_ => k_ ≠ gb152) v215 y214 from by first | exact (Kd.V_elder' (by (with_reducible repeat (first | apply Kd.V_alloc | apply Kd.V_drewN | apply Kd.V_drew)); exact (Q_HO216 h0_ h1_)) (Kd.R_base ho64) hb) | exact Kd.V_mono (Kd.V_elder' (by (with_reducible repeat (first | apply Kd.V_alloc | apply Kd.V_drewN | apply Kd.V_drew)); exact (Q_HO216 h0_ h1_)) (Kd.R_base ho64) hb) (fun _ h_ => by first | trivial | exact h_ | exact h_.1))
                    clear BK152
                    clear HB
                    have HO192 := n0_
                    have BK152 := n1_
                    have HB := n2_
                    clear n0_ n1_ n2_
                    clear hb ho64
                    refine hK.out _ _ ⟨v191, v194, v197, v200, v203, v206, v209, v212, v215, v218, v221, m15_, m22_, (by rw [ha.out]; exact putSel_upk 0 hb_ rfl rfl rfl), (by (with_reducible repeat (first | refine blk_drewN ?_ _ | refine blk_drew ?_ | refine blk_alloc ?_ _)); exact BK152.out), (by repeat (first | (with_reducible first | exact HB.out | apply below_alloc | apply pw_below_drewN | apply below_drew1 | refine below_set ?_ GE152.out) | exact HB.out)), fun _ _ => Kd.V_mono (Kd.R_V (base' := w.heap.size) (Kd.R_types ((by (with_reducible repeat (first | apply Kd.R_alloc | apply Kd.R_drewN | apply Kd.R_drew)); exact HO192.out)) BK152.out (by decide))) (fun k_ hk => by first | trivial | exact hk | exact hk.2 | exact hk.1 | exact hk.1.2 | exact hk.1.1 | exact hk.2.1 | exact hk.2.2 | exact hk.2.2.2.2), z_HO195, z_HO198, z_HO201, z_HO204, z_HO207, z_HO210, z_HO213, z_HO216, fun h0_ => absurd ((hoff 20 (by kernel_rfl)).symm.trans h0_) (by decide), fun h0_ => absurd ((hoff 21 (by kernel_rfl)).symm.trans h0_) (by decide), Q_HM15_, Q_X15_, fun h0_ => absurd ((hoff 22 (by kernel_rfl)).symm.trans h0_) (by decide)⟩
                  refine steps_cons ?_ ?_
                  · rintro b a w' ⟨v191, v194, v197, v200, v203, v206, v209, v212, v215, v218, v221, m15_, m22_, ha, Q_BK152, Q_HB, Q_HO192, Q_HO195, Q_HO198, Q_HO201, Q_HO204, Q_HO207, Q_HO210, Q_HO213, Q_HO216, Q_HO219, Q_HO222, Q_HM15_, Q_X15_, Q_X22_⟩ hb_ hon hoff
                    refine ⟨_, rfl, fun K hK => ?_⟩
                    have e31 : a.tmps[31]? = some (.pointer (some ⟨gb152, 0, none⟩)) := by rw [ha]; exact (putSel_off rfl).trans rfl
                    replace ha := Aside0.mk ha
                    have BK152 := Aside0.mk Q_BK152
                    have HB := Aside0.mk Q_HB
                    have hc0_ : w'.cell? ⟨gb152, 0, none⟩ = some (.int .i64 a0_0) := (blk_cell BK152.out 0).trans rfl
                    have hc1_ : w'.cell? ⟨gb152, 1, none⟩ = some (.int .i64 a0_1) := (blk_cell BK152.out 1).trans rfl
                    have hc2_ : w'.cell? ⟨gb152, 2, none⟩ = some (.int .i64 a0_2) := (blk_cell BK152.out 2).trans rfl
                    have hc3_ : w'.cell? ⟨gb152, 3, none⟩ = some (.bool false) := (blk_cell BK152.out 3).trans rfl
                    have hc4_ : w'.cell? ⟨gb152, 4, none⟩ = some (.string a0_4) := (blk_cell BK152.out 4).trans rfl
                    refine value_ (w1 := w') (v := .int .i64 a0_0) (by rfl) rfl ?_ ?_
                    · go_simp
                      (try simp only [i64_w])
                      try rfl
                    refine hK.out _ _ ⟨v191, v194, v197, v200, v203, v206, v209, v212, v215, v218, v221, m15_, m22_, (by rw [ha.out]; exact putSel_upk 1 hb_ rfl rfl rfl), Q_BK152, Q_HB, Q_HO192, fun h0_ _ => absurd ((hoff 4 (by kernel_rfl)).symm.trans h0_) (by decide), Q_HO198, fun h0_ _ => absurd ((hoff 8 (by kernel_rfl)).symm.trans h0_) (by decide), Q_HO204, Q_HO207, Q_HO210, Q_HO213, Q_HO216, fun h0_ => absurd ((hoff 20 (by kernel_rfl)).symm.trans h0_) (by decide), fun h0_ => absurd ((hoff 21 (by kernel_rfl)).symm.trans h0_) (by decide), Q_HM15_, Q_X15_, fun h0_ => absurd ((hoff 22 (by kernel_rfl)).symm.trans h0_) (by decide)⟩
                  refine steps_cons ?_ ?_
                  · rintro b a w' ⟨v191, v194, v197, v200, v203, v206, v209, v212, v215, v218, v221, m15_, m22_, ha, Q_BK152, Q_HB, Q_HO192, Q_HO195, Q_HO198, Q_HO201, Q_HO204, Q_HO207, Q_HO210, Q_HO213, Q_HO216, Q_HO219, Q_HO222, Q_HM15_, Q_X15_, Q_X22_⟩ hb_ hon hoff
                    refine ⟨_, rfl, fun K hK => ?_⟩
                    have e32 : a.tmps[32]? = some (.int .i64 a0_0) := by rw [ha]; exact putSel_on (e := (3, 32, .int .i64 a0_0)) 1 rfl rfl (hon 3 (by kernel_rfl)) rfl
                    replace ha := Aside0.mk ha
                    have BK152 := Aside0.mk Q_BK152
                    have HB := Aside0.mk Q_HB
                    refine goes_ Try.func62 (by kernel_rfl) rfl #[.int .i64 a0_0, .int .i64 4] (by rfl) rfl rfl (by first | (simp only [List.map_toArray, List.map_cons, List.map_nil, Act.eval, Array.getD_eq_getD_getElem?, Option.getD_some, e32]; done) | (simp only [List.map_toArray, List.map_cons, List.map_nil, Act.eval, Array.getD_eq_getD_getElem?, Option.getD_some, e32]; rfl)) ?_
                    with_reducible refine (impl_be.calls kj1 a0_0 4 t193 _ A55.out).mono ?_
                    rintro e w63 ⟨v194, rfl, ho0, hb⟩
                    refine ⟨_, rfl, ?_⟩
                    have n0_ := Aside0.mk (Kd.R_lower ho0 (below_size (by repeat (first | (with_reducible first | exact HB.out | apply below_alloc | apply pw_below_drewN | apply below_drew1 | refine below_set ?_ GE152.out) | exact HB.out))))
                    have n1_ := Aside0.mk (blk_below (g := gb152) (o := .cells #[.int .i64 a0_0, .int .i64 a0_1, .int .i64 a0_2, .bool false, .string a0_4] 46 (0, 0)) (by (with_reducible repeat (first | refine blk_drewN ?_ _ | refine blk_drew ?_ | refine blk_alloc ?_ _)); exact BK152.out) hb)
                    have n2_ := Aside0.mk (below_step (by repeat (first | (with_reducible first | exact HB.out | apply below_alloc | apply pw_below_drewN | apply below_drew1 | refine below_set ?_ GE152.out) | exact HB.out)) hb)
                    have z_HO192 := fun (h0_ : b 1 = true) (h1_ : b 20 = false) => (show Kd.V (Kd.int .u8) 5 w63 w.heap.size (fun k_ => k_ ≠ gb152) v191 y190 from by first | exact (Kd.V_elder' (by (with_reducible repeat (first | apply Kd.V_alloc | apply Kd.V_drewN | apply Kd.V_drew)); exact (Q_HO192 h0_ h1_)) (Kd.R_base ho0) hb) | exact Kd.V_mono (Kd.V_elder' (by (with_reducible repeat (first | apply Kd.V_alloc | apply Kd.V_drewN | apply Kd.V_drew)); exact (Q_HO192 h0_ h1_)) (Kd.R_base ho0) hb) (fun _ h_ => by first | trivial | exact h_ | exact h_.1))
                    have z_HO198 := fun (h0_ : b 5 = true) (h1_ : b 20 = false) => (show Kd.V (Kd.int .u8) 5 w63 w.heap.size (fun k_ => k_ ≠ gb152) v197 y196 from by first | exact (Kd.V_elder' (by (with_reducible repeat (first | apply Kd.V_alloc | apply Kd.V_drewN | apply Kd.V_drew)); exact (Q_HO198 h0_ h1_)) (Kd.R_base ho0) hb) | exact Kd.V_mono (Kd.V_elder' (by (with_reducible repeat (first | apply Kd.V_alloc | apply Kd.V_drewN | apply Kd.V_drew)); exact (Q_HO198 h0_ h1_)) (Kd.R_base ho0) hb) (fun _ h_ => by first | trivial | exact h_ | exact h_.1))
                    have z_HO204 := fun (h0_ : b 9 = true) (h1_ : b 20 = false) => (show Kd.V (Kd.int .u8) 5 w63 w.heap.size (fun k_ => k_ ≠ gb152) v203 y202 from by first | exact (Kd.V_elder' (by (with_reducible repeat (first | apply Kd.V_alloc | apply Kd.V_drewN | apply Kd.V_drew)); exact (Q_HO204 h0_ h1_)) (Kd.R_base ho0) hb) | exact Kd.V_mono (Kd.V_elder' (by (with_reducible repeat (first | apply Kd.V_alloc | apply Kd.V_drewN | apply Kd.V_drew)); exact (Q_HO204 h0_ h1_)) (Kd.R_base ho0) hb) (fun _ h_ => by first | trivial | exact h_ | exact h_.1))
                    have z_HO207 := fun (h0_ : b 12 = true) => (show Kd.V (Kd.int .u8) 5 w63 w.heap.size (fun k_ => k_ ≠ gb152) v206 y205 from by first | exact (Kd.V_elder' (by (with_reducible repeat (first | apply Kd.V_alloc | apply Kd.V_drewN | apply Kd.V_drew)); exact (Q_HO207 h0_)) (Kd.R_base ho0) hb) | exact Kd.V_mono (Kd.V_elder' (by (with_reducible repeat (first | apply Kd.V_alloc | apply Kd.V_drewN | apply Kd.V_drew)); exact (Q_HO207 h0_)) (Kd.R_base ho0) hb) (fun _ h_ => by first | trivial | exact h_ | exact h_.1))
                    have z_HO210 := fun (h0_ : b 13 = true) (h1_ : b 20 = false) => (show Kd.V (Kd.int .u8) 5 w63 w.heap.size (fun k_ => k_ ≠ gb152) v209 y208 from by first | exact (Kd.V_elder' (by (with_reducible repeat (first | apply Kd.V_alloc | apply Kd.V_drewN | apply Kd.V_drew)); exact (Q_HO210 h0_ h1_)) (Kd.R_base ho0) hb) | exact Kd.V_mono (Kd.V_elder' (by (with_reducible repeat (first | apply Kd.V_alloc | apply Kd.V_drewN | apply Kd.V_drew)); exact (Q_HO210 h0_ h1_)) (Kd.R_base ho0) hb) (fun _ h_ => by first | trivial | exact h_ | exact h_.1))
                    have z_HO213 := fun (h0_ : b 14 = true) (h1_ : b 20 = false) => (show Kd.V (Kd.int .u8) 5 w63 w.heap.size (fun k_ => k_ ≠ gb152) v212 y211 from by first | exact (Kd.V_elder' (by (with_reducible repeat (first | apply Kd.V_alloc | apply Kd.V_drewN | apply Kd.V_drew)); exact (Q_HO213 h0_ h1_)) (Kd.R_base ho0) hb) | exact Kd.V_mono (Kd.V_elder' (by (with_reducible repeat (first | apply Kd.V_alloc | apply Kd.V_drewN | apply Kd.V_drew)); exact (Q_HO213 h0_ h1_)) (Kd.R_base ho0) hb) (fun _ h_ => by first | trivial | exact h_ | exact h_.1))
                    have z_HO216 := fun (h0_ : b 19 = true) (h1_ : b 20 = false) => (show Kd.V (Kd.int .u8) 5 w63 w.heap.size (fun k_ => k_ ≠ gb152) v215 y214 from by first | exact (Kd.V_elder' (by (with_reducible repeat (first | apply Kd.V_alloc | apply Kd.V_drewN | apply Kd.V_drew)); exact (Q_HO216 h0_ h1_)) (Kd.R_base ho0) hb) | exact Kd.V_mono (Kd.V_elder' (by (with_reducible repeat (first | apply Kd.V_alloc | apply Kd.V_drewN | apply Kd.V_drew)); exact (Q_HO216 h0_ h1_)) (Kd.R_base ho0) hb) (fun _ h_ => by first | trivial | exact h_ | exact h_.1))
                    clear BK152
                    clear HB
                    have HO195 := n0_
                    have BK152 := n1_
                    have HB := n2_
                    clear n0_ n1_ n2_
                    (try clear hb)
                    (try clear hb2)
                    (try clear hk)
                    (try clear hi)
                    (try clear ho0)
                    refine hK.out _ _ ⟨v191, v194, v197, v200, v203, v206, v209, v212, v215, v218, v221, m15_, m22_, (by rw [ha.out]; exact putSel_upk 2 hb_ rfl rfl rfl), (by (with_reducible repeat (first | refine blk_drewN ?_ _ | refine blk_drew ?_ | refine blk_alloc ?_ _)); exact BK152.out), (by repeat (first | (with_reducible first | exact HB.out | apply below_alloc | apply pw_below_drewN | apply below_drew1 | refine below_set ?_ GE152.out) | exact HB.out)), z_HO192, fun _ _ => Kd.V_mono (Kd.R_V (base' := w.heap.size) (Kd.R_types ((by (with_reducible repeat (first | apply Kd.R_alloc | apply Kd.R_drewN | apply Kd.R_drew)); exact HO195.out)) BK152.out (by decide))) (fun k_ hk => by first | trivial | exact hk | exact hk.2 | exact hk.1 | exact hk.1.2 | exact hk.1.1 | exact hk.2.1 | exact hk.2.2 | exact hk.2.2.2.2), z_HO198, fun h0_ _ => absurd ((hoff 8 (by kernel_rfl)).symm.trans h0_) (by decide), z_HO204, z_HO207, z_HO210, z_HO213, z_HO216, fun h0_ => absurd ((hoff 20 (by kernel_rfl)).symm.trans h0_) (by decide), fun h0_ => absurd ((hoff 21 (by kernel_rfl)).symm.trans h0_) (by decide), Q_HM15_, Q_X15_, fun h0_ => absurd ((hoff 22 (by kernel_rfl)).symm.trans h0_) (by decide)⟩
                  refine steps_cons ?_ ?_
                  · rintro b a w' ⟨v191, v194, v197, v200, v203, v206, v209, v212, v215, v218, v221, m15_, m22_, ha, Q_BK152, Q_HB, Q_HO192, Q_HO195, Q_HO198, Q_HO201, Q_HO204, Q_HO207, Q_HO210, Q_HO213, Q_HO216, Q_HO219, Q_HO222, Q_HM15_, Q_X15_, Q_X22_⟩ hb_ hon hoff
                    refine ⟨_, rfl, fun K hK => ?_⟩
                    replace ha := Aside0.mk ha
                    have BK152 := Aside0.mk Q_BK152
                    have HB := Aside0.mk Q_HB
                    refine Kd.R_make_step (Kd.int .u8) _ 5 (by rfl) (N := 34) rfl 22 _ _ rfl 8 rfl rfl Try.underlying22 (.int .u8 0) 1 info5 rfl (by decide) (by omega) 0 (ok := fun _ => True) (okp := fun _ => True) rfl (fun _ hk => hk) trivial (by omega) (by omega) (Below.refl _ _) (Nat.le_refl _) ?_
                    intro v197 w63 ho64 hb hg_ hnew_
                    clear hg_ hnew_
                    (first | rw [← Ny196.out] at ho64 | (simp only [Int.reduceToNat] at ho64; rw [← Ny196.out] at ho64))
                    have n0_ := Aside0.mk (Kd.R_lower ho64 (below_size (by repeat (first | (with_reducible first | exact HB.out | apply below_alloc | apply pw_below_drewN | apply below_drew1 | refine below_set ?_ GE152.out) | exact HB.out))))
                    have n1_ := Aside0.mk (blk_below (g := gb152) (o := .cells #[.int .i64 a0_0, .int .i64 a0_1, .int .i64 a0_2, .bool false, .string a0_4] 46 (0, 0)) (by (with_reducible repeat (first | refine blk_drewN ?_ _ | refine blk_drew ?_ | refine blk_alloc ?_ _)); exact BK152.out) hb)
                    have n2_ := Aside0.mk (below_step (by repeat (first | (with_reducible first | exact HB.out | apply below_alloc | apply pw_below_drewN | apply below_drew1 | refine below_set ?_ GE152.out) | exact HB.out)) hb)
                    have z_HO192 := fun (h0_ : b 1 = true) (h1_ : b 20 = false) => (show Kd.V (Kd.int .u8) 5 w63 w.heap.size (fun k_ => k_ ≠ gb152) v191 y190 from by first | exact (Kd.V_elder' (by (with_reducible repeat (first | apply Kd.V_alloc | apply Kd.V_drewN | apply Kd.V_drew)); exact (Q_HO192 h0_ h1_)) (Kd.R_base ho64) hb) | exact Kd.V_mono (Kd.V_elder' (by (with_reducible repeat (first | apply Kd.V_alloc | apply Kd.V_drewN | apply Kd.V_drew)); exact (Q_HO192 h0_ h1_)) (Kd.R_base ho64) hb) (fun _ h_ => by first | trivial | exact h_ | exact h_.1))
                    have z_HO195 := fun (h0_ : b 4 = true) (h1_ : b 20 = false) => (show Kd.V (Kd.int .u8) 5 w63 w.heap.size (fun k_ => k_ ≠ gb152) v194 t193 from by first | exact (Kd.V_elder' (by (with_reducible repeat (first | apply Kd.V_alloc | apply Kd.V_drewN | apply Kd.V_drew)); exact (Q_HO195 h0_ h1_)) (Kd.R_base ho64) hb) | exact Kd.V_mono (Kd.V_elder' (by (with_reducible repeat (first | apply Kd.V_alloc | apply Kd.V_drewN | apply Kd.V_drew)); exact (Q_HO195 h0_ h1_)) (Kd.R_base ho64) hb) (fun _ h_ => by first | trivial | exact h_ | exact h_.1))
                    have z_HO201 := fun (h0_ : b 8 = true) (h1_ : b 20 = false) => (show Kd.V (Kd.int .u8) 5 w63 w.heap.size (fun k_ => k_ ≠ gb152) v200 t199 from by first | exact (Kd.V_elder' (by (with_reducible repeat (first | apply Kd.V_alloc | apply Kd.V_drewN | apply Kd.V_drew)); exact (Q_HO201 h0_ h1_)) (Kd.R_base ho64) hb) | exact Kd.V_mono (Kd.V_elder' (by (with_reducible repeat (first | apply Kd.V_alloc | apply Kd.V_drewN | apply Kd.V_drew)); exact (Q_HO201 h0_ h1_)) (Kd.R_base ho64) hb) (fun _ h_ => by first | trivial | exact h_ | exact h_.1))
                    have z_HO204 := fun (h0_ : b 9 = true) (h1_ : b 20 = false) => (show Kd.V (Kd.int .u8) 5 w63 w.heap.size (fun k_ => k_ ≠ gb152) v203 y202 from by first | exact (Kd.V_elder' (by (with_reducible repeat (first | apply Kd.V_alloc | apply Kd.V_drewN | apply Kd.V_drew)); exact (Q_HO204 h0_ h1_)) (Kd.R_base ho64) hb) | exact Kd.V_mono (Kd.V_elder' (by (with_reducible repeat (first | apply Kd.V_alloc | apply Kd.V_drewN | apply Kd.V_drew)); exact (Q_HO204 h0_ h1_)) (Kd.R_base ho64) hb) (fun _ h_ => by first | trivial | exact h_ | exact h_.1))
                    have z_HO207 := fun (h0_ : b 12 = true) => (show Kd.V (Kd.int .u8) 5 w63 w.heap.size (fun k_ => k_ ≠ gb152) v206 y205 from by first | exact (Kd.V_elder' (by (with_reducible repeat (first | apply Kd.V_alloc | apply Kd.V_drewN | apply Kd.V_drew)); exact (Q_HO207 h0_)) (Kd.R_base ho64) hb) | exact Kd.V_mono (Kd.V_elder' (by (with_reducible repeat (first | apply Kd.V_alloc | apply Kd.V_drewN | apply Kd.V_drew)); exact (Q_HO207 h0_)) (Kd.R_base ho64) hb) (fun _ h_ => by first | trivial | exact h_ | exact h_.1))
                    have z_HO210 := fun (h0_ : b 13 = true) (h1_ : b 20 = false) => (show Kd.V (Kd.int .u8) 5 w63 w.heap.size (fun k_ => k_ ≠ gb152) v209 y208 from by first | exact (Kd.V_elder' (by (with_reducible repeat (first | apply Kd.V_alloc | apply Kd.V_drewN | apply Kd.V_drew)); exact (Q_HO210 h0_ h1_)) (Kd.R_base ho64) hb) | exact Kd.V_mono (Kd.V_elder' (by (with_reducible repeat (first | apply Kd.V_alloc | apply Kd.V_drewN | apply Kd.V_drew)); exact (Q_HO210 h0_ h1_)) (Kd.R_base ho64) hb) (fun _ h_ => by first | trivial | exact h_ | exact h_.1))
                    have z_HO213 := fun (h0_ : b 14 = true) (h1_ : b 20 = false) => (show Kd.V (Kd.int .u8) 5 w63 w.heap.size (fun k_ => k_ ≠ gb152) v212 y211 from by first | exact (Kd.V_elder' (by (with_reducible repeat (first | apply Kd.V_alloc | apply Kd.V_drewN | apply Kd.V_drew)); exact (Q_HO213 h0_ h1_)) (Kd.R_base ho64) hb) | exact Kd.V_mono (Kd.V_elder' (by (with_reducible repeat (first | apply Kd.V_alloc | apply Kd.V_drewN | apply Kd.V_drew)); exact (Q_HO213 h0_ h1_)) (Kd.R_base ho64) hb) (fun _ h_ => by first | trivial | exact h_ | exact h_.1))
                    have z_HO216 := fun (h0_ : b 19 = true) (h1_ : b 20 = false) => (show Kd.V (Kd.int .u8) 5 w63 w.heap.size (fun k_ => k_ ≠ gb152) v215 y214 from by first | exact (Kd.V_elder' (by (with_reducible repeat (first | apply Kd.V_alloc | apply Kd.V_drewN | apply Kd.V_drew)); exact (Q_HO216 h0_ h1_)) (Kd.R_base ho64) hb) | exact Kd.V_mono (Kd.V_elder' (by (with_reducible repeat (first | apply Kd.V_alloc | apply Kd.V_drewN | apply Kd.V_drew)); exact (Q_HO216 h0_ h1_)) (Kd.R_base ho64) hb) (fun _ h_ => by first | trivial | exact h_ | exact h_.1))
                    clear BK152
                    clear HB
                    have HO198 := n0_
                    have BK152 := n1_
                    have HB := n2_
                    clear n0_ n1_ n2_
                    clear hb ho64
                    refine hK.out _ _ ⟨v191, v194, v197, v200, v203, v206, v209, v212, v215, v218, v221, m15_, m22_, (by rw [ha.out]; exact putSel_upk 3 hb_ rfl rfl rfl), (by (with_reducible repeat (first | refine blk_drewN ?_ _ | refine blk_drew ?_ | refine blk_alloc ?_ _)); exact BK152.out), (by repeat (first | (with_reducible first | exact HB.out | apply below_alloc | apply pw_below_drewN | apply below_drew1 | refine below_set ?_ GE152.out) | exact HB.out)), z_HO192, z_HO195, fun _ _ => Kd.V_mono (Kd.R_V (base' := w.heap.size) (Kd.R_types ((by (with_reducible repeat (first | apply Kd.R_alloc | apply Kd.R_drewN | apply Kd.R_drew)); exact HO198.out)) BK152.out (by decide))) (fun k_ hk => by first | trivial | exact hk | exact hk.2 | exact hk.1 | exact hk.1.2 | exact hk.1.1 | exact hk.2.1 | exact hk.2.2 | exact hk.2.2.2.2), z_HO201, z_HO204, z_HO207, z_HO210, z_HO213, z_HO216, fun h0_ => absurd ((hoff 20 (by kernel_rfl)).symm.trans h0_) (by decide), fun h0_ => absurd ((hoff 21 (by kernel_rfl)).symm.trans h0_) (by decide), Q_HM15_, Q_X15_, fun h0_ => absurd ((hoff 22 (by kernel_rfl)).symm.trans h0_) (by decide)⟩
                  refine steps_cons ?_ ?_
                  · rintro b a w' ⟨v191, v194, v197, v200, v203, v206, v209, v212, v215, v218, v221, m15_, m22_, ha, Q_BK152, Q_HB, Q_HO192, Q_HO195, Q_HO198, Q_HO201, Q_HO204, Q_HO207, Q_HO210, Q_HO213, Q_HO216, Q_HO219, Q_HO222, Q_HM15_, Q_X15_, Q_X22_⟩ hb_ hon hoff
                    refine ⟨_, rfl, fun K hK => ?_⟩
                    have e35 : a.tmps[35]? = some (.pointer (some ⟨gb152, 1, none⟩)) := by rw [ha]; exact (putSel_off rfl).trans rfl
                    replace ha := Aside0.mk ha
                    have BK152 := Aside0.mk Q_BK152
                    have HB := Aside0.mk Q_HB
                    have hc0_ : w'.cell? ⟨gb152, 0, none⟩ = some (.int .i64 a0_0) := (blk_cell BK152.out 0).trans rfl
                    have hc1_ : w'.cell? ⟨gb152, 1, none⟩ = some (.int .i64 a0_1) := (blk_cell BK152.out 1).trans rfl
                    have hc2_ : w'.cell? ⟨gb152, 2, none⟩ = some (.int .i64 a0_2) := (blk_cell BK152.out 2).trans rfl
                    have hc3_ : w'.cell? ⟨gb152, 3, none⟩ = some (.bool false) := (blk_cell BK152.out 3).trans rfl
                    have hc4_ : w'.cell? ⟨gb152, 4, none⟩ = some (.string a0_4) := (blk_cell BK152.out 4).trans rfl
                    refine value_ (w1 := w') (v := .int .i64 a0_1) (by rfl) rfl ?_ ?_
                    · go_simp
                      (try simp only [i64_w])
                      try rfl
                    refine hK.out _ _ ⟨v191, v194, v197, v200, v203, v206, v209, v212, v215, v218, v221, m15_, m22_, (by rw [ha.out]; exact putSel_upk 4 hb_ rfl rfl rfl), Q_BK152, Q_HB, Q_HO192, Q_HO195, Q_HO198, fun h0_ _ => absurd ((hoff 8 (by kernel_rfl)).symm.trans h0_) (by decide), Q_HO204, Q_HO207, Q_HO210, Q_HO213, Q_HO216, fun h0_ => absurd ((hoff 20 (by kernel_rfl)).symm.trans h0_) (by decide), fun h0_ => absurd ((hoff 21 (by kernel_rfl)).symm.trans h0_) (by decide), Q_HM15_, Q_X15_, fun h0_ => absurd ((hoff 22 (by kernel_rfl)).symm.trans h0_) (by decide)⟩
                  refine steps_cons ?_ ?_
                  · rintro b a w' ⟨v191, v194, v197, v200, v203, v206, v209, v212, v215, v218, v221, m15_, m22_, ha, Q_BK152, Q_HB, Q_HO192, Q_HO195, Q_HO198, Q_HO201, Q_HO204, Q_HO207, Q_HO210, Q_HO213, Q_HO216, Q_HO219, Q_HO222, Q_HM15_, Q_X15_, Q_X22_⟩ hb_ hon hoff
                    refine ⟨_, rfl, fun K hK => ?_⟩
                    have e36 : a.tmps[36]? = some (.int .i64 a0_1) := by rw [ha]; exact putSel_on (e := (7, 36, .int .i64 a0_1)) 4 rfl rfl (hon 7 (by kernel_rfl)) rfl
                    replace ha := Aside0.mk ha
                    have BK152 := Aside0.mk Q_BK152
                    have HB := Aside0.mk Q_HB
                    have HO195 := Aside0.mk (Q_HO195 (hon 4 (by kernel_rfl)) (hoff 20 (by kernel_rfl)))
                    refine goes_ Try.func62 (by kernel_rfl) rfl #[.int .i64 a0_1, .int .i64 4] (by rfl) rfl rfl (by first | (simp only [List.map_toArray, List.map_cons, List.map_nil, Act.eval, Array.getD_eq_getD_getElem?, Option.getD_some, e36]; done) | (simp only [List.map_toArray, List.map_cons, List.map_nil, Act.eval, Array.getD_eq_getD_getElem?, Option.getD_some, e36]; rfl)) ?_
                    with_reducible refine (impl_be.calls kj1 a0_1 4 t199 _ A57.out).mono ?_
                    rintro e w65 ⟨v200, rfl, ho0, hb⟩
                    refine ⟨_, rfl, ?_⟩
                    have n0_ := Aside0.mk (Kd.V_elder' (by (with_reducible repeat (first | apply Kd.V_alloc | apply Kd.V_drewN | apply Kd.V_drew)); exact HO195.out) (Kd.R_base ho0) hb)
                    have n1_ := Aside0.mk (Kd.R_lower ho0 (below_size (by repeat (first | (with_reducible first | exact HB.out | apply below_alloc | apply pw_below_drewN | apply below_drew1 | refine below_set ?_ GE152.out) | exact HB.out))))
                    have n2_ := Aside0.mk (blk_below (g := gb152) (o := .cells #[.int .i64 a0_0, .int .i64 a0_1, .int .i64 a0_2, .bool false, .string a0_4] 46 (0, 0)) (by (with_reducible repeat (first | refine blk_drewN ?_ _ | refine blk_drew ?_ | refine blk_alloc ?_ _)); exact BK152.out) hb)
                    have n3_ := Aside0.mk (below_step (by repeat (first | (with_reducible first | exact HB.out | apply below_alloc | apply pw_below_drewN | apply below_drew1 | refine below_set ?_ GE152.out) | exact HB.out)) hb)
                    have z_HO192 := fun (h0_ : b 1 = true) (h1_ : b 20 = false) => (show Kd.V (Kd.int .u8) 5 w65 w.heap.size (fun k_ => k_ ≠ gb152) v191 y190 from by first | exact (Kd.V_elder' (by (with_reducible repeat (first | apply Kd.V_alloc | apply Kd.V_drewN | apply Kd.V_drew)); exact (Q_HO192 h0_ h1_)) (Kd.R_base ho0) hb) | exact Kd.V_mono (Kd.V_elder' (by (with_reducible repeat (first | apply Kd.V_alloc | apply Kd.V_drewN | apply Kd.V_drew)); exact (Q_HO192 h0_ h1_)) (Kd.R_base ho0) hb) (fun _ h_ => by first | trivial | exact h_ | exact h_.1))
                    have z_HO198 := fun (h0_ : b 5 = true) (h1_ : b 20 = false) => (show Kd.V (Kd.int .u8) 5 w65 w.heap.size (fun k_ => k_ ≠ gb152) v197 y196 from by first | exact (Kd.V_elder' (by (with_reducible repeat (first | apply Kd.V_alloc | apply Kd.V_drewN | apply Kd.V_drew)); exact (Q_HO198 h0_ h1_)) (Kd.R_base ho0) hb) | exact Kd.V_mono (Kd.V_elder' (by (with_reducible repeat (first | apply Kd.V_alloc | apply Kd.V_drewN | apply Kd.V_drew)); exact (Q_HO198 h0_ h1_)) (Kd.R_base ho0) hb) (fun _ h_ => by first | trivial | exact h_ | exact h_.1))
                    have z_HO204 := fun (h0_ : b 9 = true) (h1_ : b 20 = false) => (show Kd.V (Kd.int .u8) 5 w65 w.heap.size (fun k_ => k_ ≠ gb152) v203 y202 from by first | exact (Kd.V_elder' (by (with_reducible repeat (first | apply Kd.V_alloc | apply Kd.V_drewN | apply Kd.V_drew)); exact (Q_HO204 h0_ h1_)) (Kd.R_base ho0) hb) | exact Kd.V_mono (Kd.V_elder' (by (with_reducible repeat (first | apply Kd.V_alloc | apply Kd.V_drewN | apply Kd.V_drew)); exact (Q_HO204 h0_ h1_)) (Kd.R_base ho0) hb) (fun _ h_ => by first | trivial | exact h_ | exact h_.1))
                    have z_HO207 := fun (h0_ : b 12 = true) => (show Kd.V (Kd.int .u8) 5 w65 w.heap.size (fun k_ => k_ ≠ gb152) v206 y205 from by first | exact (Kd.V_elder' (by (with_reducible repeat (first | apply Kd.V_alloc | apply Kd.V_drewN | apply Kd.V_drew)); exact (Q_HO207 h0_)) (Kd.R_base ho0) hb) | exact Kd.V_mono (Kd.V_elder' (by (with_reducible repeat (first | apply Kd.V_alloc | apply Kd.V_drewN | apply Kd.V_drew)); exact (Q_HO207 h0_)) (Kd.R_base ho0) hb) (fun _ h_ => by first | trivial | exact h_ | exact h_.1))
                    have z_HO210 := fun (h0_ : b 13 = true) (h1_ : b 20 = false) => (show Kd.V (Kd.int .u8) 5 w65 w.heap.size (fun k_ => k_ ≠ gb152) v209 y208 from by first | exact (Kd.V_elder' (by (with_reducible repeat (first | apply Kd.V_alloc | apply Kd.V_drewN | apply Kd.V_drew)); exact (Q_HO210 h0_ h1_)) (Kd.R_base ho0) hb) | exact Kd.V_mono (Kd.V_elder' (by (with_reducible repeat (first | apply Kd.V_alloc | apply Kd.V_drewN | apply Kd.V_drew)); exact (Q_HO210 h0_ h1_)) (Kd.R_base ho0) hb) (fun _ h_ => by first | trivial | exact h_ | exact h_.1))
                    have z_HO213 := fun (h0_ : b 14 = true) (h1_ : b 20 = false) => (show Kd.V (Kd.int .u8) 5 w65 w.heap.size (fun k_ => k_ ≠ gb152) v212 y211 from by first | exact (Kd.V_elder' (by (with_reducible repeat (first | apply Kd.V_alloc | apply Kd.V_drewN | apply Kd.V_drew)); exact (Q_HO213 h0_ h1_)) (Kd.R_base ho0) hb) | exact Kd.V_mono (Kd.V_elder' (by (with_reducible repeat (first | apply Kd.V_alloc | apply Kd.V_drewN | apply Kd.V_drew)); exact (Q_HO213 h0_ h1_)) (Kd.R_base ho0) hb) (fun _ h_ => by first | trivial | exact h_ | exact h_.1))
                    have z_HO216 := fun (h0_ : b 19 = true) (h1_ : b 20 = false) => (show Kd.V (Kd.int .u8) 5 w65 w.heap.size (fun k_ => k_ ≠ gb152) v215 y214 from by first | exact (Kd.V_elder' (by (with_reducible repeat (first | apply Kd.V_alloc | apply Kd.V_drewN | apply Kd.V_drew)); exact (Q_HO216 h0_ h1_)) (Kd.R_base ho0) hb) | exact Kd.V_mono (Kd.V_elder' (by (with_reducible repeat (first | apply Kd.V_alloc | apply Kd.V_drewN | apply Kd.V_drew)); exact (Q_HO216 h0_ h1_)) (Kd.R_base ho0) hb) (fun _ h_ => by first | trivial | exact h_ | exact h_.1))
                    clear HO195
                    clear BK152
                    clear HB
                    have HO195 := n0_
                    have HO201 := n1_
                    have BK152 := n2_
                    have HB := n3_
                    clear n0_ n1_ n2_ n3_
                    (try clear hb)
                    (try clear hb2)
                    (try clear hk)
                    (try clear hi)
                    (try clear ho0)
                    refine hK.out _ _ ⟨v191, v194, v197, v200, v203, v206, v209, v212, v215, v218, v221, m15_, m22_, (by rw [ha.out]; exact putSel_upk 5 hb_ rfl rfl rfl), (by (with_reducible repeat (first | refine blk_drewN ?_ _ | refine blk_drew ?_ | refine blk_alloc ?_ _)); exact BK152.out), (by repeat (first | (with_reducible first | exact HB.out | apply below_alloc | apply pw_below_drewN | apply below_drew1 | refine below_set ?_ GE152.out) | exact HB.out)), z_HO192, fun _ _ => (by (with_reducible repeat (first | apply Kd.V_alloc | apply Kd.V_drewN | apply Kd.V_drew)); exact Kd.V_mono HO195.out (fun _ hk => by first | exact hk.2 | exact hk.2 | exact hk.1 | exact hk | exact hk.1.2 | exact hk.1.1 | exact hk.2.1 | exact hk.2.2)), z_HO198, fun _ _ => Kd.V_mono (Kd.R_V (base' := w.heap.size) (Kd.R_types ((by (with_reducible repeat (first | apply Kd.R_alloc | apply Kd.R_drewN | apply Kd.R_drew)); exact Kd.R_mono HO201.out (fun _ hk => by first | exact hk.2 | exact hk.2 | exact hk.1 | exact hk | exact hk.1.2 | exact hk.1.1 | exact hk.2.1 | exact hk.2.2))) BK152.out (by decide))) (fun k_ hk => by first | trivial | exact hk | exact hk.2 | exact hk.1 | exact hk.1.2 | exact hk.1.1 | exact hk.2.1 | exact hk.2.2 | exact hk.2.2.2.2), z_HO204, z_HO207, z_HO210, z_HO213, z_HO216, fun h0_ => absurd ((hoff 20 (by kernel_rfl)).symm.trans h0_) (by decide), fun h0_ => absurd ((hoff 21 (by kernel_rfl)).symm.trans h0_) (by decide), Q_HM15_, Q_X15_, fun h0_ => absurd ((hoff 22 (by kernel_rfl)).symm.trans h0_) (by decide)⟩
                  refine steps_cons ?_ ?_
                  · rintro b a w' ⟨v191, v194, v197, v200, v203, v206, v209, v212, v215, v218, v221, m15_, m22_, ha, Q_BK152, Q_HB, Q_HO192, Q_HO195, Q_HO198, Q_HO201, Q_HO204, Q_HO207, Q_HO210, Q_HO213, Q_HO216, Q_HO219, Q_HO222, Q_HM15_, Q_X15_, Q_X22_⟩ hb_ hon hoff
                    refine ⟨_, rfl, fun K hK => ?_⟩
                    replace ha := Aside0.mk ha
                    have BK152 := Aside0.mk Q_BK152
                    have HB := Aside0.mk Q_HB
                    refine Kd.R_make_step (Kd.int .u8) _ 5 (by rfl) (N := 38) rfl 22 _ _ rfl 8 rfl rfl Try.underlying22 (.int .u8 0) 1 info5 rfl (by decide) (by omega) 0 (ok := fun _ => True) (okp := fun _ => True) rfl (fun _ hk => hk) trivial (by omega) (by omega) (Below.refl _ _) (Nat.le_refl _) ?_
                    intro v203 w63 ho64 hb hg_ hnew_
                    clear hg_ hnew_
                    (first | rw [← Ny202.out] at ho64 | (simp only [Int.reduceToNat] at ho64; rw [← Ny202.out] at ho64))
                    have n0_ := Aside0.mk (Kd.R_lower ho64 (below_size (by repeat (first | (with_reducible first | exact HB.out | apply below_alloc | apply pw_below_drewN | apply below_drew1 | refine below_set ?_ GE152.out) | exact HB.out))))
                    have n1_ := Aside0.mk (blk_below (g := gb152) (o := .cells #[.int .i64 a0_0, .int .i64 a0_1, .int .i64 a0_2, .bool false, .string a0_4] 46 (0, 0)) (by (with_reducible repeat (first | refine blk_drewN ?_ _ | refine blk_drew ?_ | refine blk_alloc ?_ _)); exact BK152.out) hb)
                    have n2_ := Aside0.mk (below_step (by repeat (first | (with_reducible first | exact HB.out | apply below_alloc | apply pw_below_drewN | apply below_drew1 | refine below_set ?_ GE152.out) | exact HB.out)) hb)
                    have z_HO192 := fun (h0_ : b 1 = true) (h1_ : b 20 = false) => (show Kd.V (Kd.int .u8) 5 w63 w.heap.size (fun k_ => k_ ≠ gb152) v191 y190 from by first | exact (Kd.V_elder' (by (with_reducible repeat (first | apply Kd.V_alloc | apply Kd.V_drewN | apply Kd.V_drew)); exact (Q_HO192 h0_ h1_)) (Kd.R_base ho64) hb) | exact Kd.V_mono (Kd.V_elder' (by (with_reducible repeat (first | apply Kd.V_alloc | apply Kd.V_drewN | apply Kd.V_drew)); exact (Q_HO192 h0_ h1_)) (Kd.R_base ho64) hb) (fun _ h_ => by first | trivial | exact h_ | exact h_.1))
                    have z_HO195 := fun (h0_ : b 4 = true) (h1_ : b 20 = false) => (show Kd.V (Kd.int .u8) 5 w63 w.heap.size (fun k_ => k_ ≠ gb152) v194 t193 from by first | exact (Kd.V_elder' (by (with_reducible repeat (first | apply Kd.V_alloc | apply Kd.V_drewN | apply Kd.V_drew)); exact (Q_HO195 h0_ h1_)) (Kd.R_base ho64) hb) | exact Kd.V_mono (Kd.V_elder' (by (with_reducible repeat (first | apply Kd.V_alloc | apply Kd.V_drewN | apply Kd.V_drew)); exact (Q_HO195 h0_ h1_)) (Kd.R_base ho64) hb) (fun _ h_ => by first | trivial | exact h_ | exact h_.1))
                    have z_HO198 := fun (h0_ : b 5 = true) (h1_ : b 20 = false) => (show Kd.V (Kd.int .u8) 5 w63 w.heap.size (fun k_ => k_ ≠ gb152) v197 y196 from by first | exact (Kd.V_elder' (by (with_reducible repeat (first | apply Kd.V_alloc | apply Kd.V_drewN | apply Kd.V_drew)); exact (Q_HO198 h0_ h1_)) (Kd.R_base ho64) hb) | exact Kd.V_mono (Kd.V_elder' (by (with_reducible repeat (first | apply Kd.V_alloc | apply Kd.V_drewN | apply Kd.V_drew)); exact (Q_HO198 h0_ h1_)) (Kd.R_base ho64) hb) (fun _ h_ => by first | trivial | exact h_ | exact h_.1))
                    have z_HO201 := fun (h0_ : b 8 = true) (h1_ : b 20 = false) => (show Kd.V (Kd.int .u8) 5 w63 w.heap.size (fun k_ => k_ ≠ gb152) v200 t199 from by first | exact (Kd.V_elder' (by (with_reducible repeat (first | apply Kd.V_alloc | apply Kd.V_drewN | apply Kd.V_drew)); exact (Q_HO201 h0_ h1_)) (Kd.R_base ho64) hb) | exact Kd.V_mono (Kd.V_elder' (by (with_reducible repeat (first | apply Kd.V_alloc | apply Kd.V_drewN | apply Kd.V_drew)); exact (Q_HO201 h0_ h1_)) (Kd.R_base ho64) hb) (fun _ h_ => by first | trivial | exact h_ | exact h_.1))
                    have z_HO207 := fun (h0_ : b 12 = true) => (show Kd.V (Kd.int .u8) 5 w63 w.heap.size (fun k_ => k_ ≠ gb152) v206 y205 from by first | exact (Kd.V_elder' (by (with_reducible repeat (first | apply Kd.V_alloc | apply Kd.V_drewN | apply Kd.V_drew)); exact (Q_HO207 h0_)) (Kd.R_base ho64) hb) | exact Kd.V_mono (Kd.V_elder' (by (with_reducible repeat (first | apply Kd.V_alloc | apply Kd.V_drewN | apply Kd.V_drew)); exact (Q_HO207 h0_)) (Kd.R_base ho64) hb) (fun _ h_ => by first | trivial | exact h_ | exact h_.1))
                    have z_HO210 := fun (h0_ : b 13 = true) (h1_ : b 20 = false) => (show Kd.V (Kd.int .u8) 5 w63 w.heap.size (fun k_ => k_ ≠ gb152) v209 y208 from by first | exact (Kd.V_elder' (by (with_reducible repeat (first | apply Kd.V_alloc | apply Kd.V_drewN | apply Kd.V_drew)); exact (Q_HO210 h0_ h1_)) (Kd.R_base ho64) hb) | exact Kd.V_mono (Kd.V_elder' (by (with_reducible repeat (first | apply Kd.V_alloc | apply Kd.V_drewN | apply Kd.V_drew)); exact (Q_HO210 h0_ h1_)) (Kd.R_base ho64) hb) (fun _ h_ => by first | trivial | exact h_ | exact h_.1))
                    have z_HO213 := fun (h0_ : b 14 = true) (h1_ : b 20 = false) => (show Kd.V (Kd.int .u8) 5 w63 w.heap.size (fun k_ => k_ ≠ gb152) v212 y211 from by first | exact (Kd.V_elder' (by (with_reducible repeat (first | apply Kd.V_alloc | apply Kd.V_drewN | apply Kd.V_drew)); exact (Q_HO213 h0_ h1_)) (Kd.R_base ho64) hb) | exact Kd.V_mono (Kd.V_elder' (by (with_reducible repeat (first | apply Kd.V_alloc | apply Kd.V_drewN | apply Kd.V_drew)); exact (Q_HO213 h0_ h1_)) (Kd.R_base ho64) hb) (fun _ h_ => by first | trivial | exact h_ | exact h_.1))
                    have z_HO216 := fun (h0_ : b 19 = true) (h1_ : b 20 = false) => (show Kd.V (Kd.int .u8) 5 w63 w.heap.size (fun k_ => k_ ≠ gb152) v215 y214 from by first | exact (Kd.V_elder' (by (with_reducible repeat (first | apply Kd.V_alloc | apply Kd.V_drewN | apply Kd.V_drew)); exact (Q_HO216 h0_ h1_)) (Kd.R_base ho64) hb) | exact Kd.V_mono (Kd.V_elder' (by (with_reducible repeat (first | apply Kd.V_alloc | apply Kd.V_drewN | apply Kd.V_drew)); exact (Q_HO216 h0_ h1_)) (Kd.R_base ho64) hb) (fun _ h_ => by first | trivial | exact h_ | exact h_.1))
                    clear BK152
                    clear HB
                    have HO204 := n0_
                    have BK152 := n1_
                    have HB := n2_
                    clear n0_ n1_ n2_
                    clear hb ho64
                    refine hK.out _ _ ⟨v191, v194, v197, v200, v203, v206, v209, v212, v215, v218, v221, m15_, m22_, (by rw [ha.out]; exact putSel_upk 6 hb_ rfl rfl rfl), (by (with_reducible repeat (first | refine blk_drewN ?_ _ | refine blk_drew ?_ | refine blk_alloc ?_ _)); exact BK152.out), (by repeat (first | (with_reducible first | exact HB.out | apply below_alloc | apply pw_below_drewN | apply below_drew1 | refine below_set ?_ GE152.out) | exact HB.out)), z_HO192, z_HO195, z_HO198, z_HO201, fun _ _ => Kd.V_mono (Kd.R_V (base' := w.heap.size) (Kd.R_types ((by (with_reducible repeat (first | apply Kd.R_alloc | apply Kd.R_drewN | apply Kd.R_drew)); exact HO204.out)) BK152.out (by decide))) (fun k_ hk => by first | trivial | exact hk | exact hk.2 | exact hk.1 | exact hk.1.2 | exact hk.1.1 | exact hk.2.1 | exact hk.2.2 | exact hk.2.2.2.2), z_HO207, z_HO210, z_HO213, z_HO216, fun h0_ => absurd ((hoff 20 (by kernel_rfl)).symm.trans h0_) (by decide), fun h0_ => absurd ((hoff 21 (by kernel_rfl)).symm.trans h0_) (by decide), Q_HM15_, Q_X15_, fun h0_ => absurd ((hoff 22 (by kernel_rfl)).symm.trans h0_) (by decide)⟩
                  refine steps_cons ?_ ?_
                  · rintro b a w' ⟨v191, v194, v197, v200, v203, v206, v209, v212, v215, v218, v221, m15_, m22_, ha, Q_BK152, Q_HB, Q_HO192, Q_HO195, Q_HO198, Q_HO201, Q_HO204, Q_HO207, Q_HO210, Q_HO213, Q_HO216, Q_HO219, Q_HO222, Q_HM15_, Q_X15_, Q_X22_⟩ hb_ hon hoff
                    refine ⟨_, rfl, fun K hK => ?_⟩
                    have e39 : a.tmps[39]? = some (.pointer (some ⟨gb152, 4, none⟩)) := by rw [ha]; exact (putSel_off rfl).trans rfl
                    replace ha := Aside0.mk ha
                    have BK152 := Aside0.mk Q_BK152
                    have HB := Aside0.mk Q_HB
                    have hc0_ : w'.cell? ⟨gb152, 0, none⟩ = some (.int .i64 a0_0) := (blk_cell BK152.out 0).trans rfl
                    have hc1_ : w'.cell? ⟨gb152, 1, none⟩ = some (.int .i64 a0_1) := (blk_cell BK152.out 1).trans rfl
                    have hc2_ : w'.cell? ⟨gb152, 2, none⟩ = some (.int .i64 a0_2) := (blk_cell BK152.out 2).trans rfl
                    have hc3_ : w'.cell? ⟨gb152, 3, none⟩ = some (.bool false) := (blk_cell BK152.out 3).trans rfl
                    have hc4_ : w'.cell? ⟨gb152, 4, none⟩ = some (.string a0_4) := (blk_cell BK152.out 4).trans rfl
                    refine value_ (w1 := w') (v := .string a0_4) (by rfl) rfl ?_ ?_
                    · go_simp
                      (try simp only [i64_w])
                      try rfl
                    refine hK.out _ _ ⟨v191, v194, v197, v200, v203, v206, v209, v212, v215, v218, v221, m15_, m22_, (by rw [ha.out]; exact putSel_upk 7 hb_ rfl rfl rfl), Q_BK152, Q_HB, Q_HO192, Q_HO195, Q_HO198, Q_HO201, Q_HO204, fun h0_ => absurd ((hoff 12 (by kernel_rfl)).symm.trans h0_) (by decide), Q_HO210, Q_HO213, Q_HO216, fun h0_ => absurd ((hoff 20 (by kernel_rfl)).symm.trans h0_) (by decide), fun h0_ => absurd ((hoff 21 (by kernel_rfl)).symm.trans h0_) (by decide), Q_HM15_, Q_X15_, fun h0_ => absurd ((hoff 22 (by kernel_rfl)).symm.trans h0_) (by decide)⟩
                  refine steps_cons ?_ ?_
                  · rintro b a w' ⟨v191, v194, v197, v200, v203, v206, v209, v212, v215, v218, v221, m15_, m22_, ha, Q_BK152, Q_HB, Q_HO192, Q_HO195, Q_HO198, Q_HO201, Q_HO204, Q_HO207, Q_HO210, Q_HO213, Q_HO216, Q_HO219, Q_HO222, Q_HM15_, Q_X15_, Q_X22_⟩ hb_ hon hoff
                    refine ⟨_, rfl, fun K hK => ?_⟩
                    have e40 : a.tmps[40]? = some (.string a0_4) := by rw [ha]; exact putSel_on (e := (11, 40, .string a0_4)) 7 rfl rfl (hon 11 (by kernel_rfl)) rfl
                    replace ha := Aside0.mk ha
                    have BK152 := Aside0.mk Q_BK152
                    have HB := Aside0.mk Q_HB
                    refine Kd.V_make_step _ 5 (by rfl) (N' := 41) rfl 9 22 _ rfl a0_4 (by first | rfl | exact eval_tmp (by assumption)) Try.underlying9 Try.underlying22 Try.underlying5 (ok := fun k_ => w'.heap.size ≤ k_) (Nat.le_refl _) (of_decide_eq_true (by first | (with_reducible assumption) | assumption) : a0_4.size ≤ 140737488355328) (Below.refl _ _) (Nat.le_refl _) ?_
                    intro v206 w63 ho64 hb hg_ hnew_
                    clear hg_ hnew_
                    (first | rw [← Ny205.out] at ho64 | (simp only [Int.reduceToNat] at ho64; rw [← Ny205.out] at ho64))
                    have n0_ := Aside0.mk (Kd.V_lower (Kd.V_mono (ok' := fun k_ => k_ ≠ gb152) ho64 (fun k_ hk_ => (Kd.freshB (g := gb152) (o := .cells #[.int .i64 a0_0, .int .i64 a0_1, .int .i64 a0_2, .bool false, .string a0_4] 46 (0, 0)) (by (with_reducible repeat (first | refine blk_drewN ?_ _ | refine blk_drew ?_ | refine blk_alloc ?_ _)); exact BK152.out) k_ hk_))) (below_size (by repeat (first | (with_reducible first | exact HB.out | apply below_alloc | apply pw_below_drewN | apply below_drew1 | refine below_set ?_ GE152.out) | exact HB.out))))
                    have n1_ := Aside0.mk (blk_below (g := gb152) (o := .cells #[.int .i64 a0_0, .int .i64 a0_1, .int .i64 a0_2, .bool false, .string a0_4] 46 (0, 0)) (by (with_reducible repeat (first | refine blk_drewN ?_ _ | refine blk_drew ?_ | refine blk_alloc ?_ _)); exact BK152.out) hb)
                    have n2_ := Aside0.mk (below_step (by repeat (first | (with_reducible first | exact HB.out | apply below_alloc | apply pw_below_drewN | apply below_drew1 | refine below_set ?_ GE152.out) | exact HB.out)) hb)
                    have z_HO192 := fun (h0_ : b 1 = true) (h1_ : b 20 = false) => (show Kd.V (Kd.int .u8) 5 w63 w.heap.size (fun k_ => k_ ≠ gb152) v191 y190 from by first | exact (Kd.V_below (by (with_reducible repeat (first | apply Kd.V_alloc | apply Kd.V_drewN | apply Kd.V_drew)); exact (Q_HO192 h0_ h1_)) hb) | exact Kd.V_mono (Kd.V_below (by (with_reducible repeat (first | apply Kd.V_alloc | apply Kd.V_drewN | apply Kd.V_drew)); exact (Q_HO192 h0_ h1_)) hb) (fun _ h_ => by first | trivial | exact h_ | exact h_.1))
                    have z_HO195 := fun (h0_ : b 4 = true) (h1_ : b 20 = false) => (show Kd.V (Kd.int .u8) 5 w63 w.heap.size (fun k_ => k_ ≠ gb152) v194 t193 from by first | exact (Kd.V_below (by (with_reducible repeat (first | apply Kd.V_alloc | apply Kd.V_drewN | apply Kd.V_drew)); exact (Q_HO195 h0_ h1_)) hb) | exact Kd.V_mono (Kd.V_below (by (with_reducible repeat (first | apply Kd.V_alloc | apply Kd.V_drewN | apply Kd.V_drew)); exact (Q_HO195 h0_ h1_)) hb) (fun _ h_ => by first | trivial | exact h_ | exact h_.1))
                    have z_HO198 := fun (h0_ : b 5 = true) (h1_ : b 20 = false) => (show Kd.V (Kd.int .u8) 5 w63 w.heap.size (fun k_ => k_ ≠ gb152) v197 y196 from by first | exact (Kd.V_below (by (with_reducible repeat (first | apply Kd.V_alloc | apply Kd.V_drewN | apply Kd.V_drew)); exact (Q_HO198 h0_ h1_)) hb) | exact Kd.V_mono (Kd.V_below (by (with_reducible repeat (first | apply Kd.V_alloc | apply Kd.V_drewN | apply Kd.V_drew)); exact (Q_HO198 h0_ h1_)) hb) (fun _ h_ => by first | trivial | exact h_ | exact h_.1))
                    have z_HO201 := fun (h0_ : b 8 = true) (h1_ : b 20 = false) => (show Kd.V (Kd.int .u8) 5 w63 w.heap.size (fun k_ => k_ ≠ gb152) v200 t199 from by first | exact (Kd.V_below (by (with_reducible repeat (first | apply Kd.V_alloc | apply Kd.V_drewN | apply Kd.V_drew)); exact (Q_HO201 h0_ h1_)) hb) | exact Kd.V_mono (Kd.V_below (by (with_reducible repeat (first | apply Kd.V_alloc | apply Kd.V_drewN | apply Kd.V_drew)); exact (Q_HO201 h0_ h1_)) hb) (fun _ h_ => by first | trivial | exact h_ | exact h_.1))
                    have z_HO204 := fun (h0_ : b 9 = true) (h1_ : b 20 = false) => (show Kd.V (Kd.int .u8) 5 w63 w.heap.size (fun k_ => k_ ≠ gb152) v203 y202 from by first | exact (Kd.V_below (by (with_reducible repeat (first | apply Kd.V_alloc | apply Kd.V_drewN | apply Kd.V_drew)); exact (Q_HO204 h0_ h1_)) hb) | exact Kd.V_mono (Kd.V_below (by (with_reducible repeat (first | apply Kd.V_alloc | apply Kd.V_drewN | apply Kd.V_drew)); exact (Q_HO204 h0_ h1_)) hb) (fun _ h_ => by first | trivial | exact h_ | exact h_.1))
                    have z_HO210 := fun (h0_ : b 13 = true) (h1_ : b 20 = false) => (show Kd.V (Kd.int .u8) 5 w63 w.heap.size (fun k_ => k_ ≠ gb152) v209 y208 from by first | exact (Kd.V_below (by (with_reducible repeat (first | apply Kd.V_alloc | apply Kd.V_drewN | apply Kd.V_drew)); exact (Q_HO210 h0_ h1_)) hb) | exact Kd.V_mono (Kd.V_below (by (with_reducible repeat (first | apply Kd.V_alloc | apply Kd.V_drewN | apply Kd.V_drew)); exact (Q_HO210 h0_ h1_)) hb) (fun _ h_ => by first | trivial | exact h_ | exact h_.1))
                    have z_HO213 := fun (h0_ : b 14 = true) (h1_ : b 20 = false) => (show Kd.V (Kd.int .u8) 5 w63 w.heap.size (fun k_ => k_ ≠ gb152) v212 y211 from by first | exact (Kd.V_below (by (with_reducible repeat (first | apply Kd.V_alloc | apply Kd.V_drewN | apply Kd.V_drew)); exact (Q_HO213 h0_ h1_)) hb) | exact Kd.V_mono (Kd.V_below (by (with_reducible repeat (first | apply Kd.V_alloc | apply Kd.V_drewN | apply Kd.V_drew)); exact (Q_HO213 h0_ h1_)) hb) (fun _ h_ => by first | trivial | exact h_ | exact h_.1))
                    have z_HO216 := fun (h0_ : b 19 = true) (h1_ : b 20 = false) => (show Kd.V (Kd.int .u8) 5 w63 w.heap.size (fun k_ => k_ ≠ gb152) v215 y214 from by first | exact (Kd.V_below (by (with_reducible repeat (first | apply Kd.V_alloc | apply Kd.V_drewN | apply Kd.V_drew)); exact (Q_HO216 h0_ h1_)) hb) | exact Kd.V_mono (Kd.V_below (by (with_reducible repeat (first | apply Kd.V_alloc | apply Kd.V_drewN | apply Kd.V_drew)); exact (Q_HO216 h0_ h1_)) hb) (fun _ h_ => by first | trivial | exact h_ | exact h_.1))
                    clear BK152
                    clear HB
                    have HO207 := n0_
                    have BK152 := n1_
                    have HB := n2_
                    clear n0_ n1_ n2_
                    clear hb ho64
                    refine hK.out _ _ ⟨v191, v194, v197, v200, v203, v206, v209, v212, v215, v218, v221, m15_, m22_, (by rw [ha.out]; exact putSel_upk 8 hb_ rfl rfl rfl), (by (with_reducible repeat (first | refine blk_drewN ?_ _ | refine blk_drew ?_ | refine blk_alloc ?_ _)); exact BK152.out), (by repeat (first | (with_reducible first | exact HB.out | apply below_alloc | apply pw_below_drewN | apply below_drew1 | refine below_set ?_ GE152.out) | exact HB.out)), z_HO192, z_HO195, z_HO198, z_HO201, z_HO204, fun _ => (by (with_reducible repeat (first | apply Kd.V_alloc | apply Kd.V_drewN | apply Kd.V_drew)); exact HO207.out), z_HO210, z_HO213, z_HO216, fun h0_ => absurd ((hoff 20 (by kernel_rfl)).symm.trans h0_) (by decide), fun h0_ => absurd ((hoff 21 (by kernel_rfl)).symm.trans h0_) (by decide), Q_HM15_, Q_X15_, fun h0_ => absurd ((hoff 22 (by kernel_rfl)).symm.trans h0_) (by decide)⟩
                  refine steps_cons ?_ ?_
                  · rintro b a w' ⟨v191, v194, v197, v200, v203, v206, v209, v212, v215, v218, v221, m15_, m22_, ha, Q_BK152, Q_HB, Q_HO192, Q_HO195, Q_HO198, Q_HO201, Q_HO204, Q_HO207, Q_HO210, Q_HO213, Q_HO216, Q_HO219, Q_HO222, Q_HM15_, Q_X15_, Q_X22_⟩ hb_ hon hoff
                    refine ⟨_, rfl, fun K hK => ?_⟩
                    replace ha := Aside0.mk ha
                    have BK152 := Aside0.mk Q_BK152
                    have HB := Aside0.mk Q_HB
                    refine Kd.R_make_step (Kd.int .u8) _ 5 (by rfl) (N := 42) rfl 22 _ _ rfl 202 rfl rfl Try.underlying22 (.int .u8 0) 1 info5 rfl (by decide) (by omega) 0 (ok := fun _ => True) (okp := fun _ => True) rfl (fun _ hk => hk) trivial (by omega) (by omega) (Below.refl _ _) (Nat.le_refl _) ?_
                    intro v209 w63 ho64 hb hg_ hnew_
                    clear hg_ hnew_
                    (first | rw [← Ny208.out] at ho64 | (simp only [Int.reduceToNat] at ho64; rw [← Ny208.out] at ho64))
                    have n0_ := Aside0.mk (Kd.R_lower ho64 (below_size (by repeat (first | (with_reducible first | exact HB.out | apply below_alloc | apply pw_below_drewN | apply below_drew1 | refine below_set ?_ GE152.out) | exact HB.out))))
                    have n1_ := Aside0.mk (blk_below (g := gb152) (o := .cells #[.int .i64 a0_0, .int .i64 a0_1, .int .i64 a0_2, .bool false, .string a0_4] 46 (0, 0)) (by (with_reducible repeat (first | refine blk_drewN ?_ _ | refine blk_drew ?_ | refine blk_alloc ?_ _)); exact BK152.out) hb)
                    have n2_ := Aside0.mk (below_step (by repeat (first | (with_reducible first | exact HB.out | apply below_alloc | apply pw_below_drewN | apply below_drew1 | refine below_set ?_ GE152.out) | exact HB.out)) hb)
                    have z_HO192 := fun (h0_ : b 1 = true) (h1_ : b 20 = false) => (show Kd.V (Kd.int .u8) 5 w63 w.heap.size (fun k_ => k_ ≠ gb152) v191 y190 from by first | exact (Kd.V_elder' (by (with_reducible repeat (first | apply Kd.V_alloc | apply Kd.V_drewN | apply Kd.V_drew)); exact (Q_HO192 h0_ h1_)) (Kd.R_base ho64) hb) | exact Kd.V_mono (Kd.V_elder' (by (with_reducible repeat (first | apply Kd.V_alloc | apply Kd.V_drewN | apply Kd.V_drew)); exact (Q_HO192 h0_ h1_)) (Kd.R_base ho64) hb) (fun _ h_ => by first | trivial | exact h_ | exact h_.1))
                    have z_HO195 := fun (h0_ : b 4 = true) (h1_ : b 20 = false) => (show Kd.V (Kd.int .u8) 5 w63 w.heap.size (fun k_ => k_ ≠ gb152) v194 t193 from by first | exact (Kd.V_elder' (by (with_reducible repeat (first | apply Kd.V_alloc | apply Kd.V_drewN | apply Kd.V_drew)); exact (Q_HO195 h0_ h1_)) (Kd.R_base ho64) hb) | exact Kd.V_mono (Kd.V_elder' (by (with_reducible repeat (first | apply Kd.V_alloc | apply Kd.V_drewN | apply Kd.V_drew)); exact (Q_HO195 h0_ h1_)) (Kd.R_base ho64) hb) (fun _ h_ => by first | trivial | exact h_ | exact h_.1))
                    have z_HO198 := fun (h0_ : b 5 = true) (h1_ : b 20 = false) => (show Kd.V (Kd.int .u8) 5 w63 w.heap.size (fun k_ => k_ ≠ gb152) v197 y196 from by first | exact (Kd.V_elder' (by (with_reducible repeat (first | apply Kd.V_alloc | apply Kd.V_drewN | apply Kd.V_drew)); exact (Q_HO198 h0_ h1_)) (Kd.R_base ho64) hb) | exact Kd.V_mono (Kd.V_elder' (by (with_reducible repeat (first | apply Kd.V_alloc | apply Kd.V_drewN | apply Kd.V_drew)); exact (Q_HO198 h0_ h1_)) (Kd.R_base ho64) hb) (fun _ h_ => by first | trivial | exact h_ | exact h_.1))
                    have z_HO201 := fun (h0_ : b 8 = true) (h1_ : b 20 = false) => (show Kd.V (Kd.int .u8) 5 w63 w.heap.size (fun k_ => k_ ≠ gb152) v200 t199 from by first | exact (Kd.V_elder' (by (with_reducible repeat (first | apply Kd.V_alloc | apply Kd.V_drewN | apply Kd.V_drew)); exact (Q_HO201 h0_ h1_)) (Kd.R_base ho64) hb) | exact Kd.V_mono (Kd.V_elder' (by (with_reducible repeat (first | apply Kd.V_alloc | apply Kd.V_drewN | apply Kd.V_drew)); exact (Q_HO201 h0_ h1_)) (Kd.R_base ho64) hb) (fun _ h_ => by first | trivial | exact h_ | exact h_.1))
                    have z_HO204 := fun (h0_ : b 9 = true) (h1_ : b 20 = false) => (show Kd.V (Kd.int .u8) 5 w63 w.heap.size (fun k_ => k_ ≠ gb152) v203 y202 from by first | exact (Kd.V_elder' (by (with_reducible repeat (first | apply Kd.V_alloc | apply Kd.V_drewN | apply Kd.V_drew)); exact (Q_HO204 h0_ h1_)) (Kd.R_base ho64) hb) | exact Kd.V_mono (Kd.V_elder' (by (with_reducible repeat (first | apply Kd.V_alloc | apply Kd.V_drewN | apply Kd.V_drew)); exact (Q_HO204 h0_ h1_)) (Kd.R_base ho64) hb) (fun _ h_ => by first | trivial | exact h_ | exact h_.1))
                    have z_HO207 := fun (h0_ : b 12 = true) => (show Kd.V (Kd.int .u8) 5 w63 w.heap.size (fun k_ => k_ ≠ gb152) v206 y205 from by first | exact (Kd.V_elder' (by (with_reducible repeat (first | apply Kd.V_alloc | apply Kd.V_drewN | apply Kd.V_drew)); exact (Q_HO207 h0_)) (Kd.R_base ho64) hb) | exact Kd.V_mono (Kd.V_elder' (by (with_reducible repeat (first | apply Kd.V_alloc | apply Kd.V_drewN | apply Kd.V_drew)); exact (Q_HO207 h0_)) (Kd.R_base ho64) hb) (fun _ h_ => by first | trivial | exact h_ | exact h_.1))
                    have z_HO213 := fun (h0_ : b 14 = true) (h1_ : b 20 = false) => (show Kd.V (Kd.int .u8) 5 w63 w.heap.size (fun k_ => k_ ≠ gb152) v212 y211 from by first | exact (Kd.V_elder' (by (with_reducible repeat (first | apply Kd.V_alloc | apply Kd.V_drewN | apply Kd.V_drew)); exact (Q_HO213 h0_ h1_)) (Kd.R_base ho64) hb) | exact Kd.V_mono (Kd.V_elder' (by (with_reducible repeat (first | apply Kd.V_alloc | apply Kd.V_drewN | apply Kd.V_drew)); exact (Q_HO213 h0_ h1_)) (Kd.R_base ho64) hb) (fun _ h_ => by first | trivial | exact h_ | exact h_.1))
                    have z_HO216 := fun (h0_ : b 19 = true) (h1_ : b 20 = false) => (show Kd.V (Kd.int .u8) 5 w63 w.heap.size (fun k_ => k_ ≠ gb152) v215 y214 from by first | exact (Kd.V_elder' (by (with_reducible repeat (first | apply Kd.V_alloc | apply Kd.V_drewN | apply Kd.V_drew)); exact (Q_HO216 h0_ h1_)) (Kd.R_base ho64) hb) | exact Kd.V_mono (Kd.V_elder' (by (with_reducible repeat (first | apply Kd.V_alloc | apply Kd.V_drewN | apply Kd.V_drew)); exact (Q_HO216 h0_ h1_)) (Kd.R_base ho64) hb) (fun _ h_ => by first | trivial | exact h_ | exact h_.1))
                    clear BK152
                    clear HB
                    have HO210 := n0_
                    have BK152 := n1_
                    have HB := n2_
                    clear n0_ n1_ n2_
                    clear hb ho64
                    refine hK.out _ _ ⟨v191, v194, v197, v200, v203, v206, v209, v212, v215, v218, v221, m15_, m22_, (by rw [ha.out]; exact putSel_upk 9 hb_ rfl rfl rfl), (by (with_reducible repeat (first | refine blk_drewN ?_ _ | refine blk_drew ?_ | refine blk_alloc ?_ _)); exact BK152.out), (by repeat (first | (with_reducible first | exact HB.out | apply below_alloc | apply pw_below_drewN | apply below_drew1 | refine below_set ?_ GE152.out) | exact HB.out)), z_HO192, z_HO195, z_HO198, z_HO201, z_HO204, z_HO207, fun _ _ => Kd.V_mono (Kd.R_V (base' := w.heap.size) (Kd.R_types ((by (with_reducible repeat (first | apply Kd.R_alloc | apply Kd.R_drewN | apply Kd.R_drew)); exact HO210.out)) BK152.out (by decide))) (fun k_ hk => by first | trivial | exact hk | exact hk.2 | exact hk.1 | exact hk.1.2 | exact hk.1.1 | exact hk.2.1 | exact hk.2.2 | exact hk.2.2.2.2), z_HO213, z_HO216, fun h0_ => absurd ((hoff 20 (by kernel_rfl)).symm.trans h0_) (by decide), fun h0_ => absurd ((hoff 21 (by kernel_rfl)).symm.trans h0_) (by decide), Q_HM15_, Q_X15_, fun h0_ => absurd ((hoff 22 (by kernel_rfl)).symm.trans h0_) (by decide)⟩
                  refine steps_cons ?_ ?_
                  · rintro b a w' ⟨v191, v194, v197, v200, v203, v206, v209, v212, v215, v218, v221, m15_, m22_, ha, Q_BK152, Q_HB, Q_HO192, Q_HO195, Q_HO198, Q_HO201, Q_HO204, Q_HO207, Q_HO210, Q_HO213, Q_HO216, Q_HO219, Q_HO222, Q_HM15_, Q_X15_, Q_X22_⟩ hb_ hon hoff
                    refine ⟨_, rfl, fun K hK => ?_⟩
                    replace ha := Aside0.mk ha
                    have BK152 := Aside0.mk Q_BK152
                    have HB := Aside0.mk Q_HB
                    refine Kd.R_lit_step (Kd.int .u8) _ 5 ?hg (N := 43) ?hd (xs := ([99, 130, 83, 99] : List Int)) (inner := [.int .u8 99, .int .u8 130, .int .u8 83, .int .u8 99]) (ok := fun _ => True) (okp := fun _ => True) ?hr ?hp (fun _ hk => hk) trivial (Below.refl _ _) (Nat.le_refl _) (by simp) ?_; (case hd => rfl); (case hg => rfl); (case hr => first | (go_simp; done) | (go_simp; rfl)); (case hp => exact (Reps.one (show Kd.M (Kd.int .u8) _ _ _ 99 [.int .u8 99] from rfl) (Reps.one (show Kd.M (Kd.int .u8) _ _ _ 130 [.int .u8 130] from rfl) (Reps.one (show Kd.M (Kd.int .u8) _ _ _ 83 [.int .u8 83] from rfl) (Reps.one (show Kd.M (Kd.int .u8) _ _ _ 99 [.int .u8 99] from rfl) (Reps.none _ _))))))
                    intro v212 w63 ho64 hb hg_ hnew_
                    clear hg_ hnew_
                    (first | rw [← Ny211.out] at ho64 | (simp only [Int.reduceToNat] at ho64; rw [← Ny211.out] at ho64))
                    have n0_ := Aside0.mk (Kd.R_lower ho64 (below_size (by repeat (first | (with_reducible first | exact HB.out | apply below_alloc | apply pw_below_drewN | apply below_drew1 | refine below_set ?_ GE152.out) | exact HB.out))))
                    have n1_ := Aside0.mk (blk_below (g := gb152) (o := .cells #[.int .i64 a0_0, .int .i64 a0_1, .int .i64 a0_2, .bool false, .string a0_4] 46 (0, 0)) (by (with_reducible repeat (first | refine blk_drewN ?_ _ | refine blk_drew ?_ | refine blk_alloc ?_ _)); exact BK152.out) hb)
                    have n2_ := Aside0.mk (below_step (by repeat (first | (with_reducible first | exact HB.out | apply below_alloc | apply pw_below_drewN | apply below_drew1 | refine below_set ?_ GE152.out) | exact HB.out)) hb)
                    have z_HO192 := fun (h0_ : b 1 = true) (h1_ : b 20 = false) => (show Kd.V (Kd.int .u8) 5 w63 w.heap.size (fun k_ => k_ ≠ gb152) v191 y190 from by first | exact (Kd.V_elder' (by (with_reducible repeat (first | apply Kd.V_alloc | apply Kd.V_drewN | apply Kd.V_drew)); exact (Q_HO192 h0_ h1_)) (Kd.R_base ho64) hb) | exact Kd.V_mono (Kd.V_elder' (by (with_reducible repeat (first | apply Kd.V_alloc | apply Kd.V_drewN | apply Kd.V_drew)); exact (Q_HO192 h0_ h1_)) (Kd.R_base ho64) hb) (fun _ h_ => by first | trivial | exact h_ | exact h_.1))
                    have z_HO195 := fun (h0_ : b 4 = true) (h1_ : b 20 = false) => (show Kd.V (Kd.int .u8) 5 w63 w.heap.size (fun k_ => k_ ≠ gb152) v194 t193 from by first | exact (Kd.V_elder' (by (with_reducible repeat (first | apply Kd.V_alloc | apply Kd.V_drewN | apply Kd.V_drew)); exact (Q_HO195 h0_ h1_)) (Kd.R_base ho64) hb) | exact Kd.V_mono (Kd.V_elder' (by (with_reducible repeat (first | apply Kd.V_alloc | apply Kd.V_drewN | apply Kd.V_drew)); exact (Q_HO195 h0_ h1_)) (Kd.R_base ho64) hb) (fun _ h_ => by first | trivial | exact h_ | exact h_.1))
                    have z_HO198 := fun (h0_ : b 5 = true) (h1_ : b 20 = false) => (show Kd.V (Kd.int .u8) 5 w63 w.heap.size (fun k_ => k_ ≠ gb152) v197 y196 from by first | exact (Kd.V_elder' (by (with_reducible repeat (first | apply Kd.V_alloc | apply Kd.V_drewN | apply Kd.V_drew)); exact (Q_HO198 h0_ h1_)) (Kd.R_base ho64) hb) | exact Kd.V_mono (Kd.V_elder' (by (with_reducible repeat (first | apply Kd.V_alloc | apply Kd.V_drewN | apply Kd.V_drew)); exact (Q_HO198 h0_ h1_)) (Kd.R_base ho64) hb) (fun _ h_ => by first | trivial | exact h_ | exact h_.1))
                    have z_HO201 := fun (h0_ : b 8 = true) (h1_ : b 20 = false) => (show Kd.V (Kd.int .u8) 5 w63 w.heap.size (fun k_ => k_ ≠ gb152) v200 t199 from by first | exact (Kd.V_elder' (by (with_reducible repeat (first | apply Kd.V_alloc | apply Kd.V_drewN | apply Kd.V_drew)); exact (Q_HO201 h0_ h1_)) (Kd.R_base ho64) hb) | exact Kd.V_mono (Kd.V_elder' (by (with_reducible repeat (first | apply Kd.V_alloc | apply Kd.V_drewN | apply Kd.V_drew)); exact (Q_HO201 h0_ h1_)) (Kd.R_base ho64) hb) (fun _ h_ => by first | trivial | exact h_ | exact h_.1))
                    have z_HO204 := fun (h0_ : b 9 = true) (h1_ : b 20 = false) => (show Kd.V (Kd.int .u8) 5 w63 w.heap.size (fun k_ => k_ ≠ gb152) v203 y202 from by first | exact (Kd.V_elder' (by (with_reducible repeat (first | apply Kd.V_alloc | apply Kd.V_drewN | apply Kd.V_drew)); exact (Q_HO204 h0_ h1_)) (Kd.R_base ho64) hb) | exact Kd.V_mono (Kd.V_elder' (by (with_reducible repeat (first | apply Kd.V_alloc | apply Kd.V_drewN | apply Kd.V_drew)); exact (Q_HO204 h0_ h1_)) (Kd.R_base ho64) hb) (fun _ h_ => by first | trivial | exact h_ | exact h_.1))
                    have z_HO207 := fun (h0_ : b 12 = true) => (show Kd.V (Kd.int .u8) 5 w63 w.heap.size (fun k_ => k_ ≠ gb152) v206 y205 from by first | exact (Kd.V_elder' (by (with_reducible repeat (first | apply Kd.V_alloc | apply Kd.V_drewN | apply Kd.V_drew)); exact (Q_HO207 h0_)) (Kd.R_base ho64) hb) | exact Kd.V_mono (Kd.V_elder' (by (with_reducible repeat (first | apply Kd.V_alloc | apply Kd.V_drewN | apply Kd.V_drew)); exact (Q_HO207 h0_)) (Kd.R_base ho64) hb) (fun _ h_ => by first | trivial | exact h_ | exact h_.1))
                    have z_HO210 := fun (h0_ : b 13 = true) (h1_ : b 20 = false) => (show Kd.V (Kd.int .u8) 5 w63 w.heap.size (fun k_ => k_ ≠ gb152) v209 y208 from by first | exact (Kd.V_elder' (by (with_reducible repeat (first | apply Kd.V_alloc | apply Kd.V_drewN | apply Kd.V_drew)); exact (Q_HO210 h0_ h1_)) (Kd.R_base ho64) hb) | exact Kd.V_mono (Kd.V_elder' (by (with_reducible repeat (first | apply Kd.V_alloc | apply Kd.V_drewN | apply Kd.V_drew)); exact (Q_HO210 h0_ h1_)) (Kd.R_base ho64) hb) (fun _ h_ => by first | trivial | exact h_ | exact h_.1))
                    have z_HO216 := fun (h0_ : b 19 = true) (h1_ : b 20 = false) => (show Kd.V (Kd.int .u8) 5 w63 w.heap.size (fun k_ => k_ ≠ gb152) v215 y214 from by first | exact (Kd.V_elder' (by (with_reducible repeat (first | apply Kd.V_alloc | apply Kd.V_drewN | apply Kd.V_drew)); exact (Q_HO216 h0_ h1_)) (Kd.R_base ho64) hb) | exact Kd.V_mono (Kd.V_elder' (by (with_reducible repeat (first | apply Kd.V_alloc | apply Kd.V_drewN | apply Kd.V_drew)); exact (Q_HO216 h0_ h1_)) (Kd.R_base ho64) hb) (fun _ h_ => by first | trivial | exact h_ | exact h_.1))
                    clear BK152
                    clear HB
                    have HO213 := n0_
                    have BK152 := n1_
                    have HB := n2_
                    clear n0_ n1_ n2_
                    clear hb ho64
                    refine hK.out _ _ ⟨v191, v194, v197, v200, v203, v206, v209, v212, v215, v218, v221, m15_, m22_, (by rw [ha.out]; exact putSel_upk 10 hb_ rfl rfl rfl), (by (with_reducible repeat (first | refine blk_drewN ?_ _ | refine blk_drew ?_ | refine blk_alloc ?_ _)); exact BK152.out), (by repeat (first | (with_reducible first | exact HB.out | apply below_alloc | apply pw_below_drewN | apply below_drew1 | refine below_set ?_ GE152.out) | exact HB.out)), z_HO192, z_HO195, z_HO198, z_HO201, z_HO204, z_HO207, z_HO210, fun _ _ => Kd.V_mono (Kd.R_V (base' := w.heap.size) (Kd.R_types ((by (with_reducible repeat (first | apply Kd.R_alloc | apply Kd.R_drewN | apply Kd.R_drew)); exact HO213.out)) BK152.out (by decide))) (fun k_ hk => by first | trivial | exact hk | exact hk.2 | exact hk.1 | exact hk.1.2 | exact hk.1.1 | exact hk.2.1 | exact hk.2.2 | exact hk.2.2.2.2), z_HO216, fun h0_ => absurd ((hoff 20 (by kernel_rfl)).symm.trans h0_) (by decide), fun h0_ => absurd ((hoff 21 (by kernel_rfl)).symm.trans h0_) (by decide), fun _ => (by obtain ⟨g_, h1_, h2_, h3_⟩ := Kd.R_block (Kd.R_types ((by (with_reducible repeat (first | apply Kd.R_alloc | apply Kd.R_drewN | apply Kd.R_drew)); exact HO213.out)) BK152.out (by decide)) (by rw [Ny211.out]; rfl); exact ⟨g_, h1_, h2_, h3_.2⟩), fun h0_ => absurd ((hoff 15 (by kernel_rfl)).symm.trans h0_) (by decide), fun h0_ => absurd ((hoff 22 (by kernel_rfl)).symm.trans h0_) (by decide)⟩
                  refine steps_cons ?_ ?_
                  · rintro b a w' ⟨v191, v194, v197, v200, v203, v206, v209, v212, v215, v218, v221, m15_, m22_, ha, Q_BK152, Q_HB, Q_HO192, Q_HO195, Q_HO198, Q_HO201, Q_HO204, Q_HO207, Q_HO210, Q_HO213, Q_HO216, Q_HO219, Q_HO222, Q_HM15_, Q_X15_, Q_X22_⟩ hb_ hon hoff
                    refine ⟨_, rfl, fun K hK => ?_⟩
                    have e43 : a.tmps[43]? = some (v212) := by rw [ha]; exact putSel_on (e := (14, 43, v212)) 10 rfl rfl (hon 14 (by kernel_rfl)) rfl
                    replace ha := Aside0.mk ha
                    have BK152 := Aside0.mk Q_BK152
                    have HB := Aside0.mk Q_HB
                    have HO213 := Aside0.mk (Q_HO213 (hon 14 (by kernel_rfl)) (hoff 20 (by kernel_rfl)))
                    have HM15_ := Aside0.mk (Q_HM15_ (hon 14 (by kernel_rfl)))
                    obtain ⟨g_, hg1_, hg2_, hg3_0⟩ := HM15_.out
                    refine mark_step (by rfl) 22 5 _ rfl (by first | rfl | exact eval_tmp e43) Try.underlying22 Try.underlying5 HO213.out hg1_ ?_
                    intro w1_ hm_
                    refine hK.out _ _ ⟨v191, v194, v197, v200, v203, v206, v209, v212, v215, v218, v221, (v212), m22_, (by rw [ha.out]; exact putSel_upk 11 hb_ rfl rfl rfl), (blk_marked BK152.out hm_ hg3_0), (below_marked HB.out hm_ (below_size HB.out) hg2_), (fun h0_ h1_ => Kd.V_marked (Q_HO192 h0_ h1_) hm_), (fun h0_ h1_ => Kd.V_marked (Q_HO195 h0_ h1_) hm_), (fun h0_ h1_ => Kd.V_marked (Q_HO198 h0_ h1_) hm_), (fun h0_ h1_ => Kd.V_marked (Q_HO201 h0_ h1_) hm_), (fun h0_ h1_ => Kd.V_marked (Q_HO204 h0_ h1_) hm_), (fun h0_ => Kd.V_marked (Q_HO207 h0_) hm_), (fun h0_ h1_ => Kd.V_marked (Q_HO210 h0_ h1_) hm_), (fun h0_ h1_ => Kd.V_marked (Q_HO213 h0_ h1_) hm_), (fun h0_ h1_ => Kd.V_marked (Q_HO216 h0_ h1_) hm_), fun h0_ => absurd ((hoff 20 (by kernel_rfl)).symm.trans h0_) (by decide), fun h0_ => absurd ((hoff 21 (by kernel_rfl)).symm.trans h0_) (by decide), Q_HM15_, fun _ => rfl, fun h0_ => absurd ((hoff 22 (by kernel_rfl)).symm.trans h0_) (by decide)⟩
                  refine steps_cons ?_ ?_
                  · rintro b a w' ⟨v191, v194, v197, v200, v203, v206, v209, v212, v215, v218, v221, m15_, m22_, ha, Q_BK152, Q_HB, Q_HO192, Q_HO195, Q_HO198, Q_HO201, Q_HO204, Q_HO207, Q_HO210, Q_HO213, Q_HO216, Q_HO219, Q_HO222, Q_HM15_, Q_X15_, Q_X22_⟩ hb_ hon hoff
                    refine ⟨_, rfl, fun K hK => ?_⟩
                    have e45 : a.tmps[45]? = some (.pointer (some ⟨gb152, 2, none⟩)) := by rw [ha]; exact (putSel_off rfl).trans rfl
                    replace ha := Aside0.mk ha
                    have BK152 := Aside0.mk Q_BK152
                    have HB := Aside0.mk Q_HB
                    have hc0_ : w'.cell? ⟨gb152, 0, none⟩ = some (.int .i64 a0_0) := (blk_cell BK152.out 0).trans rfl
                    have hc1_ : w'.cell? ⟨gb152, 1, none⟩ = some (.int .i64 a0_1) := (blk_cell BK152.out 1).trans rfl
                    have hc2_ : w'.cell? ⟨gb152, 2, none⟩ = some (.int .i64 a0_2) := (blk_cell BK152.out 2).trans rfl
                    have hc3_ : w'.cell? ⟨gb152, 3, none⟩ = some (.bool false) := (blk_cell BK152.out 3).trans rfl
                    have hc4_ : w'.cell? ⟨gb152, 4, none⟩ = some (.string a0_4) := (blk_cell BK152.out 4).trans rfl
                    refine value_ (w1 := w') (v := .int .i64 a0_2) (by rfl) rfl ?_ ?_
                    · go_simp
                      (try simp only [i64_w])
                      try rfl
                    refine hK.out _ _ ⟨v191, v194, v197, v200, v203, v206, v209, v212, v215, v218, v221, m15_, m22_, (by rw [ha.out]; exact putSel_upk 12 hb_ rfl rfl rfl), Q_BK152, Q_HB, Q_HO192, Q_HO195, Q_HO198, Q_HO201, Q_HO204, Q_HO207, Q_HO210, Q_HO213, fun h0_ _ => absurd ((hoff 19 (by kernel_rfl)).symm.trans h0_) (by decide), fun h0_ => absurd ((hoff 20 (by kernel_rfl)).symm.trans h0_) (by decide), fun h0_ => absurd ((hoff 21 (by kernel_rfl)).symm.trans h0_) (by decide), Q_HM15_, Q_X15_, fun h0_ => absurd ((hoff 22 (by kernel_rfl)).symm.trans h0_) (by decide)⟩
                  refine steps_cons ?_ ?_
                  · rintro b a w' ⟨v191, v194, v197, v200, v203, v206, v209, v212, v215, v218, v221, m15_, m22_, ha, Q_BK152, Q_HB, Q_HO192, Q_HO195, Q_HO198, Q_HO201, Q_HO204, Q_HO207, Q_HO210, Q_HO213, Q_HO216, Q_HO219, Q_HO222, Q_HM15_, Q_X15_, Q_X22_⟩ hb_ hon hoff
                    refine ⟨_, rfl, fun K hK => ?_⟩
                    have e46 : a.tmps[46]? = some (.int .i64 a0_2) := by rw [ha]; exact putSel_on (e := (17, 46, .int .i64 a0_2)) 12 rfl rfl (hon 17 (by kernel_rfl)) rfl
                    replace ha := Aside0.mk ha
                    have BK152 := Aside0.mk Q_BK152
                    have HB := Aside0.mk Q_HB
                    refine value_ (w1 := w') (v := .int .u8 ((a0_2) % 256)) (by rfl) rfl ?_ ?_
                    · go_simp
                      (try simp only [i64_w])
                      try rfl
                    refine hK.out _ _ ⟨v191, v194, v197, v200, v203, v206, v209, v212, v215, v218, v221, m15_, m22_, (by rw [ha.out]; exact putSel_upk 13 hb_ rfl rfl rfl), Q_BK152, Q_HB, Q_HO192, Q_HO195, Q_HO198, Q_HO201, Q_HO204, Q_HO207, Q_HO210, Q_HO213, fun h0_ _ => absurd ((hoff 19 (by kernel_rfl)).symm.trans h0_) (by decide), fun h0_ => absurd ((hoff 20 (by kernel_rfl)).symm.trans h0_) (by decide), fun h0_ => absurd ((hoff 21 (by kernel_rfl)).symm.trans h0_) (by decide), Q_HM15_, Q_X15_, fun h0_ => absurd ((hoff 22 (by kernel_rfl)).symm.trans h0_) (by decide)⟩
                  refine steps_cons ?_ ?_
                  · rintro b a w' ⟨v191, v194, v197, v200, v203, v206, v209, v212, v215, v218, v221, m15_, m22_, ha, Q_BK152, Q_HB, Q_HO192, Q_HO195, Q_HO198, Q_HO201, Q_HO204, Q_HO207, Q_HO210, Q_HO213, Q_HO216, Q_HO219, Q_HO222, Q_HM15_, Q_X15_, Q_X22_⟩ hb_ hon hoff
                    refine ⟨_, rfl, fun K hK => ?_⟩
                    have e47 : a.tmps[47]? = some (.int .u8 ((a0_2) % 256)) := by rw [ha]; exact putSel_on (e := (18, 47, .int .u8 ((a0_2) % 256))) 13 rfl rfl (hon 18 (by kernel_rfl)) rfl
                    replace ha := Aside0.mk ha
                    have BK152 := Aside0.mk Q_BK152
                    have HB := Aside0.mk Q_HB
                    refine Kd.R_lit_step (Kd.int .u8) _ 5 ?hg (N := 48) ?hd (xs := ([53, 1, (a0_2) % 256, 255] : List Int)) (inner := [.int .u8 53, .int .u8 1, .int .u8 ((a0_2) % 256), .int .u8 255]) (ok := fun _ => True) (okp := fun _ => True) ?hr ?hp (fun _ hk => hk) trivial (Below.refl _ _) (Nat.le_refl _) (by simp) ?_; (case hd => rfl); (case hg => rfl); (case hr => first | (go_simp; done) | (go_simp; rfl)); (case hp => exact (Reps.one (show Kd.M (Kd.int .u8) _ _ _ 53 [.int .u8 53] from rfl) (Reps.one (show Kd.M (Kd.int .u8) _ _ _ 1 [.int .u8 1] from rfl) (Reps.one (show Kd.M (Kd.int .u8) _ _ _ ((a0_2) % 256) [.int .u8 ((a0_2) % 256)] from rfl) (Reps.one (show Kd.M (Kd.int .u8) _ _ _ 255 [.int .u8 255] from rfl) (Reps.none _ _))))))
                    intro v215 w63 ho64 hb hg_ hnew_
                    clear hg_ hnew_
                    (first | rw [← Ny214.out] at ho64 | (simp only [Int.reduceToNat] at ho64; rw [← Ny214.out] at ho64))
                    have n0_ := Aside0.mk (Kd.R_lower ho64 (below_size (by repeat (first | (with_reducible first | exact HB.out | apply below_alloc | apply pw_below_drewN | apply below_drew1 | refine below_set ?_ GE152.out) | exact HB.out))))
                    have n1_ := Aside0.mk (blk_below (g := gb152) (o := .cells #[.int .i64 a0_0, .int .i64 a0_1, .int .i64 a0_2, .bool false, .string a0_4] 46 (0, 0)) (by (with_reducible repeat (first | refine blk_drewN ?_ _ | refine blk_drew ?_ | refine blk_alloc ?_ _)); exact BK152.out) hb)
                    have n2_ := Aside0.mk (below_step (by repeat (first | (with_reducible first | exact HB.out | apply below_alloc | apply pw_below_drewN | apply below_drew1 | refine below_set ?_ GE152.out) | exact HB.out)) hb)
                    have z_HO192 := fun (h0_ : b 1 = true) (h1_ : b 20 = false) => (show Kd.V (Kd.int .u8) 5 w63 w.heap.size (fun k_ => k_ ≠ gb152) v191 y190 from by first | exact (Kd.V_elder' (by (with_reducible repeat (first | apply Kd.V_alloc | apply Kd.V_drewN | apply Kd.V_drew)); exact (Q_HO192 h0_ h1_)) (Kd.R_base ho64) hb) | exact Kd.V_mono (Kd.V_elder' (by (with_reducible repeat (first | apply Kd.V_alloc | apply Kd.V_drewN | apply Kd.V_drew)); exact (Q_HO192 h0_ h1_)) (Kd.R_base ho64) hb) (fun _ h_ => by first | trivial | exact h_ | exact h_.1))
                    have z_HO195 := fun (h0_ : b 4 = true) (h1_ : b 20 = false) => (show Kd.V (Kd.int .u8) 5 w63 w.heap.size (fun k_ => k_ ≠ gb152) v194 t193 from by first | exact (Kd.V_elder' (by (with_reducible repeat (first | apply Kd.V_alloc | apply Kd.V_drewN | apply Kd.V_drew)); exact (Q_HO195 h0_ h1_)) (Kd.R_base ho64) hb) | exact Kd.V_mono (Kd.V_elder' (by (with_reducible repeat (first | apply Kd.V_alloc | apply Kd.V_drewN | apply Kd.V_drew)); exact (Q_HO195 h0_ h1_)) (Kd.R_base ho64) hb) (fun _ h_ => by first | trivial | exact h_ | exact h_.1))
                    have z_HO198 := fun (h0_ : b 5 = true) (h1_ : b 20 = false) => (show Kd.V (Kd.int .u8) 5 w63 w.heap.size (fun k_ => k_ ≠ gb152) v197 y196 from by first | exact (Kd.V_elder' (by (with_reducible repeat (first | apply Kd.V_alloc | apply Kd.V_drewN | apply Kd.V_drew)); exact (Q_HO198 h0_ h1_)) (Kd.R_base ho64) hb) | exact Kd.V_mono (Kd.V_elder' (by (with_reducible repeat (first | apply Kd.V_alloc | apply Kd.V_drewN | apply Kd.V_drew)); exact (Q_HO198 h0_ h1_)) (Kd.R_base ho64) hb) (fun _ h_ => by first | trivial | exact h_ | exact h_.1))
                    have z_HO201 := fun (h0_ : b 8 = true) (h1_ : b 20 = false) => (show Kd.V (Kd.int .u8) 5 w63 w.heap.size (fun k_ => k_ ≠ gb152) v200 t199 from by first | exact (Kd.V_elder' (by (with_reducible repeat (first | apply Kd.V_alloc | apply Kd.V_drewN | apply Kd.V_drew)); exact (Q_HO201 h0_ h1_)) (Kd.R_base ho64) hb) | exact Kd.V_mono (Kd.V_elder' (by (with_reducible repeat (first | apply Kd.V_alloc | apply Kd.V_drewN | apply Kd.V_drew)); exact (Q_HO201 h0_ h1_)) (Kd.R_base ho64) hb) (fun _ h_ => by first | trivial | exact h_ | exact h_.1))
                    have z_HO204 := fun (h0_ : b 9 = true) (h1_ : b 20 = false) => (show Kd.V (Kd.int .u8) 5 w63 w.heap.size (fun k_ => k_ ≠ gb152) v203 y202 from by first | exact (Kd.V_elder' (by (with_reducible repeat (first | apply Kd.V_alloc | apply Kd.V_drewN | apply Kd.V_drew)); exact (Q_HO204 h0_ h1_)) (Kd.R_base ho64) hb) | exact Kd.V_mono (Kd.V_elder' (by (with_reducible repeat (first | apply Kd.V_alloc | apply Kd.V_drewN | apply Kd.V_drew)); exact (Q_HO204 h0_ h1_)) (Kd.R_base ho64) hb) (fun _ h_ => by first | trivial | exact h_ | exact h_.1))
                    have z_HO207 := fun (h0_ : b 12 = true) => (show Kd.V (Kd.int .u8) 5 w63 w.heap.size (fun k_ => k_ ≠ gb152) v206 y205 from by first | exact (Kd.V_elder' (by (with_reducible repeat (first | apply Kd.V_alloc | apply Kd.V_drewN | apply Kd.V_drew)); exact (Q_HO207 h0_)) (Kd.R_base ho64) hb) | exact Kd.V_mono (Kd.V_elder' (by (with_reducible repeat (first | apply Kd.V_alloc | apply Kd.V_drewN | apply Kd.V_drew)); exact (Q_HO207 h0_)) (Kd.R_base ho64) hb) (fun _ h_ => by first | trivial | exact h_ | exact h_.1))
                    have z_HO210 := fun (h0_ : b 13 = true) (h1_ : b 20 = false) => (show Kd.V (Kd.int .u8) 5 w63 w.heap.size (fun k_ => k_ ≠ gb152) v209 y208 from by first | exact (Kd.V_elder' (by (with_reducible repeat (first | apply Kd.V_alloc | apply Kd.V_drewN | apply Kd.V_drew)); exact (Q_HO210 h0_ h1_)) (Kd.R_base ho64) hb) | exact Kd.V_mono (Kd.V_elder' (by (with_reducible repeat (first | apply Kd.V_alloc | apply Kd.V_drewN | apply Kd.V_drew)); exact (Q_HO210 h0_ h1_)) (Kd.R_base ho64) hb) (fun _ h_ => by first | trivial | exact h_ | exact h_.1))
                    have z_HO213 := fun (h0_ : b 14 = true) (h1_ : b 20 = false) => (show Kd.V (Kd.int .u8) 5 w63 w.heap.size (fun k_ => k_ ≠ gb152) v212 y211 from by first | exact (Kd.V_elder' (by (with_reducible repeat (first | apply Kd.V_alloc | apply Kd.V_drewN | apply Kd.V_drew)); exact (Q_HO213 h0_ h1_)) (Kd.R_base ho64) hb) | exact Kd.V_mono (Kd.V_elder' (by (with_reducible repeat (first | apply Kd.V_alloc | apply Kd.V_drewN | apply Kd.V_drew)); exact (Q_HO213 h0_ h1_)) (Kd.R_base ho64) hb) (fun _ h_ => by first | trivial | exact h_ | exact h_.1))
                    clear BK152
                    clear HB
                    have HO216 := n0_
                    have BK152 := n1_
                    have HB := n2_
                    clear n0_ n1_ n2_
                    clear hb ho64
                    refine hK.out _ _ ⟨v191, v194, v197, v200, v203, v206, v209, v212, v215, v218, v221, m15_, m22_, (by rw [ha.out]; exact putSel_upk 14 hb_ rfl rfl rfl), (by (with_reducible repeat (first | refine blk_drewN ?_ _ | refine blk_drew ?_ | refine blk_alloc ?_ _)); exact BK152.out), (by repeat (first | (with_reducible first | exact HB.out | apply below_alloc | apply pw_below_drewN | apply below_drew1 | refine below_set ?_ GE152.out) | exact HB.out)), z_HO192, z_HO195, z_HO198, z_HO201, z_HO204, z_HO207, z_HO210, z_HO213, fun _ _ => Kd.V_mono (Kd.R_V (base' := w.heap.size) (Kd.R_types ((by (with_reducible repeat (first | apply Kd.R_alloc | apply Kd.R_drewN | apply Kd.R_drew)); exact HO216.out)) BK152.out (by decide))) (fun k_ hk => by first | trivial | exact hk | exact hk.2 | exact hk.1 | exact hk.1.2 | exact hk.1.1 | exact hk.2.1 | exact hk.2.2 | exact hk.2.2.2.2), fun h0_ => absurd ((hoff 20 (by kernel_rfl)).symm.trans h0_) (by decide), fun h0_ => absurd ((hoff 21 (by kernel_rfl)).symm.trans h0_) (by decide), Q_HM15_, Q_X15_, fun h0_ => absurd ((hoff 22 (by kernel_rfl)).symm.trans h0_) (by decide)⟩
                  refine steps_cons ?_ ?_
                  · rintro b a w' ⟨v191, v194, v197, v200, v203, v206, v209, v212, v215, v218, v221, m15_, m22_, ha, Q_BK152, Q_HB, Q_HO192, Q_HO195, Q_HO198, Q_HO201, Q_HO204, Q_HO207, Q_HO210, Q_HO213, Q_HO216, Q_HO219, Q_HO222, Q_HM15_, Q_X15_, Q_X22_⟩ hb_ hon hoff
                    refine ⟨_, rfl, fun K hK => ?_⟩
                    have e30 : a.tmps[30]? = some (v191) := by rw [ha]; exact putSel_on (e := (1, 30, v191)) 0 rfl rfl (hon 1 (by kernel_rfl)) rfl
                    have e33 : a.tmps[33]? = some (v194) := by rw [ha]; exact putSel_on (e := (4, 33, v194)) 2 rfl rfl (hon 4 (by kernel_rfl)) rfl
                    have e34 : a.tmps[34]? = some (v197) := by rw [ha]; exact putSel_on (e := (5, 34, v197)) 3 rfl rfl (hon 5 (by kernel_rfl)) rfl
                    have e37 : a.tmps[37]? = some (v200) := by rw [ha]; exact putSel_on (e := (8, 37, v200)) 5 rfl rfl (hon 8 (by kernel_rfl)) rfl
                    have e38 : a.tmps[38]? = some (v203) := by rw [ha]; exact putSel_on (e := (9, 38, v203)) 6 rfl rfl (hon 9 (by kernel_rfl)) rfl
                    have e41 : a.tmps[41]? = some (v206) := by rw [ha]; exact putSel_on (e := (12, 41, v206)) 8 rfl rfl (hon 12 (by kernel_rfl)) rfl
                    have e42 : a.tmps[42]? = some (v209) := by rw [ha]; exact putSel_on (e := (13, 42, v209)) 9 rfl rfl (hon 13 (by kernel_rfl)) rfl
                    have e44 : a.tmps[44]? = some (m15_) := by rw [ha]; exact putSel_on (e := (15, 44, m15_)) 11 rfl rfl (hon 15 (by kernel_rfl)) rfl
                    rw [Q_X15_ (hon 15 (by kernel_rfl))] at e44
                    have e48 : a.tmps[48]? = some (v215) := by rw [ha]; exact putSel_on (e := (19, 48, v215)) 14 rfl rfl (hon 19 (by kernel_rfl)) rfl
                    replace ha := Aside0.mk ha
                    have BK152 := Aside0.mk Q_BK152
                    have HB := Aside0.mk Q_HB
                    have HO192 := Aside0.mk (Q_HO192 (hon 1 (by kernel_rfl)) hb_)
                    have HO195 := Aside0.mk (Q_HO195 (hon 4 (by kernel_rfl)) hb_)
                    have HO198 := Aside0.mk (Q_HO198 (hon 5 (by kernel_rfl)) hb_)
                    have HO201 := Aside0.mk (Q_HO201 (hon 8 (by kernel_rfl)) hb_)
                    have HO204 := Aside0.mk (Q_HO204 (hon 9 (by kernel_rfl)) hb_)
                    have HO207 := Aside0.mk (Q_HO207 (hon 12 (by kernel_rfl)))
                    have HO210 := Aside0.mk (Q_HO210 (hon 13 (by kernel_rfl)) hb_)
                    have HO213 := Aside0.mk (Q_HO213 (hon 14 (by kernel_rfl)) hb_)
                    have HO216 := Aside0.mk (Q_HO216 (hon 19 (by kernel_rfl)) hb_)
                    have HM15_ := Aside0.mk (Q_HM15_ (hon 14 (by kernel_rfl)))
                    obtain ⟨Ao80, co80, eo80⟩ := Kd.V_slice HO192.out
                    (first | subst eo80 | (injection eo80 with f1_ f2_ f3_; have f4_ := f1_.symm; have f5_ := f3_.symm; clear f1_ f2_ f3_; subst f4_; subst f5_))
                    obtain ⟨Ao81, co81, eo81⟩ := Kd.V_slice HO195.out
                    (first | subst eo81 | (injection eo81 with f1_ f2_ f3_; have f4_ := f1_.symm; have f5_ := f3_.symm; clear f1_ f2_ f3_; subst f4_; subst f5_))
                    obtain ⟨Ao82, co82, eo82⟩ := Kd.V_slice HO198.out
                    (first | subst eo82 | (injection eo82 with f1_ f2_ f3_; have f4_ := f1_.symm; have f5_ := f3_.symm; clear f1_ f2_ f3_; subst f4_; subst f5_))
                    obtain ⟨Ao83, co83, eo83⟩ := Kd.V_slice HO201.out
                    (first | subst eo83 | (injection eo83 with f1_ f2_ f3_; have f4_ := f1_.symm; have f5_ := f3_.symm; clear f1_ f2_ f3_; subst f4_; subst f5_))
                    obtain ⟨Ao84, co84, eo84⟩ := Kd.V_slice HO204.out
                    (first | subst eo84 | (injection eo84 with f1_ f2_ f3_; have f4_ := f1_.symm; have f5_ := f3_.symm; clear f1_ f2_ f3_; subst f4_; subst f5_))
                    obtain ⟨Ao85, co85, eo85⟩ := Kd.V_slice HO207.out
                    (first | subst eo85 | (injection eo85 with f1_ f2_ f3_; have f4_ := f1_.symm; have f5_ := f3_.symm; clear f1_ f2_ f3_; subst f4_; subst f5_))
                    obtain ⟨Ao86, co86, eo86⟩ := Kd.V_slice HO210.out
                    (first | subst eo86 | (injection eo86 with f1_ f2_ f3_; have f4_ := f1_.symm; have f5_ := f3_.symm; clear f1_ f2_ f3_; subst f4_; subst f5_))
                    obtain ⟨Ao87, co87, eo87⟩ := Kd.V_slice HO213.out
                    (first | subst eo87 | (injection eo87 with f1_ f2_ f3_; have f4_ := f1_.symm; have f5_ := f3_.symm; clear f1_ f2_ f3_; subst f4_; subst f5_))
                    obtain ⟨Ao88, co88, eo88⟩ := Kd.V_slice HO216.out
                    (first | subst eo88 | (injection eo88 with f1_ f2_ f3_; have f4_ := f1_.symm; have f5_ := f3_.symm; clear f1_ f2_ f3_; subst f4_; subst f5_))
                    refine Kd.N_lit_step (Kd.slice 5 (Kd.int .u8)) _ 22 ?hg (N' := 49) ?hd (xs := ([y190, t193, y196, t199, y202, y205, y208, y211, y214] : List (List Int))) (inner := [.slice Ao80 y190.length co80, .slice Ao81 t193.length co81, .slice Ao82 y196.length co82, .slice Ao83 t199.length co83, .slice Ao84 y202.length co84, .slice Ao85 y205.length co85, .slice Ao86 y208.length co86, .slice Ao87 y211.length co87, .slice Ao88 y214.length co88]) (ok := (fun k_ => k_ ≠ gb152)) (okp := (fun k_ => k_ ≠ gb152)) ?hr ?hp (fun _ hk => hk) ((show ∀ k_, w'.heap.size ≤ k_ → (fun k_ => k_ ≠ gb152) k_ from fun k_ hk => Kd.freshB (g := gb152) (o := .cells #[.int .i64 a0_0, .int .i64 a0_1, .int .i64 a0_2, .bool false, .string a0_4] 46 (0, 0)) (by (with_reducible repeat (first | refine blk_drewN ?_ _ | refine blk_drew ?_ | refine blk_alloc ?_ _)); exact BK152.out) k_ hk) _ (Nat.le_refl _)) (Below.refl _ _) (Nat.le_refl _) (by simp) ?_; (case hd => rfl); (case hg => rfl); (case hr => first | (go_simp; done) | (go_simp; rfl)); (case hp => exact (Reps.one (show Kd.FK (Kd.slice 5 (Kd.int .u8)) _ _ y190 [.slice Ao80 y190.length co80] from (Kd.FK_slice_mk (Kd.V_reads' (Kd.V_mono (ok' := (fun k_ => k_ ≠ gb152)) (HO192.out) (fun k_ hk => by first | trivial | exact hk | exact hk.2 | exact hk.1 | exact hk.1.2 | exact hk.1.1 | exact hk.2.1 | exact hk.2.2 | exact hk.2.2.2.2))).2.1 (Kd.V_F (Kd.V_mono (ok' := (fun k_ => k_ ≠ gb152)) (HO192.out) (fun k_ hk => by first | trivial | exact hk | exact hk.2 | exact hk.1 | exact hk.1.2 | exact hk.1.1 | exact hk.2.1 | exact hk.2.2 | exact hk.2.2.2.2))))) (Reps.one (show Kd.FK (Kd.slice 5 (Kd.int .u8)) _ _ t193 [.slice Ao81 t193.length co81] from (Kd.FK_slice_mk (Kd.V_reads' (Kd.V_mono (ok' := (fun k_ => k_ ≠ gb152)) (HO195.out) (fun k_ hk => by first | trivial | exact hk | exact hk.2 | exact hk.1 | exact hk.1.2 | exact hk.1.1 | exact hk.2.1 | exact hk.2.2 | exact hk.2.2.2.2))).2.1 (Kd.V_F (Kd.V_mono (ok' := (fun k_ => k_ ≠ gb152)) (HO195.out) (fun k_ hk => by first | trivial | exact hk | exact hk.2 | exact hk.1 | exact hk.1.2 | exact hk.1.1 | exact hk.2.1 | exact hk.2.2 | exact hk.2.2.2.2))))) (Reps.one (show Kd.FK (Kd.slice 5 (Kd.int .u8)) _ _ y196 [.slice Ao82 y196.length co82] from (Kd.FK_slice_mk (Kd.V_reads' (Kd.V_mono (ok' := (fun k_ => k_ ≠ gb152)) (HO198.out) (fun k_ hk => by first | trivial | exact hk | exact hk.2 | exact hk.1 | exact hk.1.2 | exact hk.1.1 | exact hk.2.1 | exact hk.2.2 | exact hk.2.2.2.2))).2.1 (Kd.V_F (Kd.V_mono (ok' := (fun k_ => k_ ≠ gb152)) (HO198.out) (fun k_ hk => by first | trivial | exact hk | exact hk.2 | exact hk.1 | exact hk.1.2 | exact hk.1.1 | exact hk.2.1 | exact hk.2.2 | exact hk.2.2.2.2))))) (Reps.one (show Kd.FK (Kd.slice 5 (Kd.int .u8)) _ _ t199 [.slice Ao83 t199.length co83] from (Kd.FK_slice_mk (Kd.V_reads' (Kd.V_mono (ok' := (fun k_ => k_ ≠ gb152)) (HO201.out) (fun k_ hk => by first | trivial | exact hk | exact hk.2 | exact hk.1 | exact hk.1.2 | exact hk.1.1 | exact hk.2.1 | exact hk.2.2 | exact hk.2.2.2.2))).2.1 (Kd.V_F (Kd.V_mono (ok' := (fun k_ => k_ ≠ gb152)) (HO201.out) (fun k_ hk => by first | trivial | exact hk | exact hk.2 | exact hk.1 | exact hk.1.2 | exact hk.1.1 | exact hk.2.1 | exact hk.2.2 | exact hk.2.2.2.2))))) (Reps.one (show Kd.FK (Kd.slice 5 (Kd.int .u8)) _ _ y202 [.slice Ao84 y202.length co84] from (Kd.FK_slice_mk (Kd.V_reads' (Kd.V_mono (ok' := (fun k_ => k_ ≠ gb152)) (HO204.out) (fun k_ hk => by first | trivial | exact hk | exact hk.2 | exact hk.1 | exact hk.1.2 | exact hk.1.1 | exact hk.2.1 | exact hk.2.2 | exact hk.2.2.2.2))).2.1 (Kd.V_F (Kd.V_mono (ok' := (fun k_ => k_ ≠ gb152)) (HO204.out) (fun k_ hk => by first | trivial | exact hk | exact hk.2 | exact hk.1 | exact hk.1.2 | exact hk.1.1 | exact hk.2.1 | exact hk.2.2 | exact hk.2.2.2.2))))) (Reps.one (show Kd.FK (Kd.slice 5 (Kd.int .u8)) _ _ y205 [.slice Ao85 y205.length co85] from (Kd.FK_slice_mk (Kd.V_reads' (Kd.V_mono (ok' := (fun k_ => k_ ≠ gb152)) (HO207.out) (fun k_ hk => by first | exact hk.2.2.2.2.2.2.2.2 | exact hk | exact hk.2 | exact hk.1 | exact hk.1.2 | exact hk.1.1 | exact hk.2.1 | exact hk.2.2))).2.1 (Kd.V_F (Kd.V_mono (ok' := (fun k_ => k_ ≠ gb152)) (HO207.out) (fun k_ hk => by first | exact hk.2.2.2.2.2.2.2.2 | exact hk | exact hk.2 | exact hk.1 | exact hk.1.2 | exact hk.1.1 | exact hk.2.1 | exact hk.2.2))))) (Reps.one (show Kd.FK (Kd.slice 5 (Kd.int .u8)) _ _ y208 [.slice Ao86 y208.length co86] from (Kd.FK_slice_mk (Kd.V_reads' (Kd.V_mono (ok' := (fun k_ => k_ ≠ gb152)) (HO210.out) (fun k_ hk => by first | trivial | exact hk | exact hk.2 | exact hk.1 | exact hk.1.2 | exact hk.1.1 | exact hk.2.1 | exact hk.2.2 | exact hk.2.2.2.2))).2.1 (Kd.V_F (Kd.V_mono (ok' := (fun k_ => k_ ≠ gb152)) (HO210.out) (fun k_ hk => by first | trivial | exact hk | exact hk.2 | exact hk.1 | exact hk.1.2 | exact hk.1.1 | exact hk.2.1 | exact hk.2.2 | exact hk.2.2.2.2))))) (Reps.one (show Kd.FK (Kd.slice 5 (Kd.int .u8)) _ _ y211 [.slice Ao87 y211.length co87] from (Kd.FK_slice_mk (Kd.V_reads' (Kd.V_mono (ok' := (fun k_ => k_ ≠ gb152)) (HO213.out) (fun k_ hk => by first | trivial | exact hk | exact hk.2 | exact hk.1 | exact hk.1.2 | exact hk.1.1 | exact hk.2.1 | exact hk.2.2 | exact hk.2.2.2.2))).2.1 (Kd.V_F (Kd.V_mono (ok' := (fun k_ => k_ ≠ gb152)) (HO213.out) (fun k_ hk => by first | trivial | exact hk | exact hk.2 | exact hk.1 | exact hk.1.2 | exact hk.1.1 | exact hk.2.1 | exact hk.2.2 | exact hk.2.2.2.2))))) (Reps.one (show Kd.FK (Kd.slice 5 (Kd.int .u8)) _ _ y214 [.slice Ao88 y214.length co88] from (Kd.FK_slice_mk (Kd.V_reads' (Kd.V_mono (ok' := (fun k_ => k_ ≠ gb152)) (HO216.out) (fun k_ hk => by first | trivial | exact hk | exact hk.2 | exact hk.1 | exact hk.1.2 | exact hk.1.1 | exact hk.2.1 | exact hk.2.2 | exact hk.2.2.2.2))).2.1 (Kd.V_F (Kd.V_mono (ok' := (fun k_ => k_ ≠ gb152)) (HO216.out) (fun k_ hk => by first | trivial | exact hk | exact hk.2 | exact hk.1 | exact hk.1.2 | exact hk.1.1 | exact hk.2.1 | exact hk.2.2 | exact hk.2.2.2.2))))) (Reps.none _ _)))))))))))
                    intro v218 w89 ho90 hb hg_ hnew_
                    clear hg_ hnew_
                    (first | rw [← Ny217.out] at ho90 | (simp only [Int.reduceToNat] at ho90; rw [← Ny217.out] at ho90))
                    have n0_ := Aside0.mk (Kd.V_elder' (by (with_reducible repeat (first | apply Kd.V_alloc | apply Kd.V_drewN | apply Kd.V_drew)); exact HO207.out) (Kd.N_base ho90) hb)
                    have n1_ := Aside0.mk (Kd.N_lower ho90 (below_size (by repeat (first | (with_reducible first | exact HB.out | apply below_alloc | apply pw_below_drewN | apply below_drew1 | refine below_set ?_ GE152.out) | exact HB.out))))
                    have n2_ := Aside0.mk (blk_below (g := gb152) (o := .cells #[.int .i64 a0_0, .int .i64 a0_1, .int .i64 a0_2, .bool false, .string a0_4] 46 (0, 0)) (by (with_reducible repeat (first | refine blk_drewN ?_ _ | refine blk_drew ?_ | refine blk_alloc ?_ _)); exact BK152.out) hb)
                    have n3_ := Aside0.mk (below_step (by repeat (first | (with_reducible first | exact HB.out | apply below_alloc | apply pw_below_drewN | apply below_drew1 | refine below_set ?_ GE152.out) | exact HB.out)) hb)
                    clear HO207
                    clear BK152
                    clear HB
                    clear HO192
                    clear HO195
                    clear HO198
                    clear HO201
                    clear HO204
                    clear HO210
                    clear HO213
                    clear HO216
                    have HO207 := n0_
                    have HO219 := n1_
                    have BK152 := n2_
                    have HB := n3_
                    clear n0_ n1_ n2_ n3_
                    clear hb ho90
                    refine hK.out _ _ ⟨.slice Ao80 y190.length co80, .slice Ao81 t193.length co81, .slice Ao82 y196.length co82, .slice Ao83 t199.length co83, .slice Ao84 y202.length co84, .slice Ao85 y205.length co85, .slice Ao86 y208.length co86, .slice Ao87 y211.length co87, .slice Ao88 y214.length co88, v218, v221, m15_, m22_, (by rw [ha.out]; exact putSel_upk 15 hb_ rfl rfl rfl), (by (with_reducible repeat (first | refine blk_drewN ?_ _ | refine blk_drew ?_ | refine blk_alloc ?_ _)); exact BK152.out), (by repeat (first | (with_reducible first | exact HB.out | apply below_alloc | apply pw_below_drewN | apply below_drew1 | refine below_set ?_ GE152.out) | exact HB.out)), fun _ h1_ => absurd ((up_self b 20).symm.trans h1_) (by decide), fun _ h1_ => absurd ((up_self b 20).symm.trans h1_) (by decide), fun _ h1_ => absurd ((up_self b 20).symm.trans h1_) (by decide), fun _ h1_ => absurd ((up_self b 20).symm.trans h1_) (by decide), fun _ h1_ => absurd ((up_self b 20).symm.trans h1_) (by decide), fun _ => (by (with_reducible repeat (first | apply Kd.V_alloc | apply Kd.V_drewN | apply Kd.V_drew)); exact Kd.V_mono HO207.out (fun _ hk => by first | exact ⟨hk.2, hk.1.2.2.2.2.2.2.2.2⟩ | exact hk.2 | exact hk.1 | exact hk | exact hk.1.2 | exact hk.1.1 | exact hk.2.1 | exact hk.2.2)), fun _ h1_ => absurd ((up_self b 20).symm.trans h1_) (by decide), fun _ h1_ => absurd ((up_self b 20).symm.trans h1_) (by decide), fun _ h1_ => absurd ((up_self b 20).symm.trans h1_) (by decide), fun _ => (by (with_reducible repeat (first | apply Kd.N_alloc | apply Kd.N_drewN | apply Kd.N_drew)); exact HO219.out), fun h0_ => absurd ((hoff 21 (by kernel_rfl)).symm.trans h0_) (by decide), Q_HM15_, Q_X15_, fun h0_ => absurd ((hoff 22 (by kernel_rfl)).symm.trans h0_) (by decide)⟩
                  refine steps_cons ?_ ?_
                  · rintro b a w' ⟨v191, v194, v197, v200, v203, v206, v209, v212, v215, v218, v221, m15_, m22_, ha, Q_BK152, Q_HB, Q_HO192, Q_HO195, Q_HO198, Q_HO201, Q_HO204, Q_HO207, Q_HO210, Q_HO213, Q_HO216, Q_HO219, Q_HO222, Q_HM15_, Q_X15_, Q_X22_⟩ hb_ hon hoff
                    refine ⟨_, rfl, fun K hK => ?_⟩
                    have e49 : a.tmps[49]? = some (v218) := by rw [ha]; exact putSel_on (e := (20, 49, v218)) 15 rfl rfl (hon 20 (by kernel_rfl)) rfl
                    replace ha := Aside0.mk ha
                    have BK152 := Aside0.mk Q_BK152
                    have HB := Aside0.mk Q_HB
                    have HO207 := Aside0.mk (Q_HO207 (hon 12 (by kernel_rfl)))
                    have HO219 := Aside0.mk (Q_HO219 (hon 20 (by kernel_rfl)))
                    have HM15_ := Aside0.mk (Q_HM15_ (hon 14 (by kernel_rfl)))
                    obtain ⟨Ao91, co91, eo91⟩ := Kd.N_slice HO219.out
                    (first | subst eo91 | (injection eo91 with f1_ f2_ f3_; have f4_ := f1_.symm; have f5_ := f3_.symm; clear f1_ f2_ f3_; subst f4_; subst f5_))
                    refine goes_ Try.func74 (by kernel_rfl) rfl #[.slice Ao91 y217.length co91] (by rfl) rfl rfl (by first | (simp only [List.map_toArray, List.map_cons, List.map_nil, Act.eval, Array.getD_eq_getD_getElem?, Option.getD_some, e49]; done) | (simp only [List.map_toArray, List.map_cons, List.map_nil, Act.eval, Array.getD_eq_getD_getElem?, Option.getD_some, e49]; rfl)) ?_
                    with_reducible refine (slices_Concat_byte_byte.calls kj1 _ _ y217 t220 _ ?side1 ?side2 A60.out).mono ?_
                    (case side1 => repeat (first | exact (Kd.N_reads' HO219.out).2.2 | (with_reducible refine Kd.C_alloc ?_ _) | (with_reducible refine Kd.C_drewN ?_ _) | (with_reducible refine Kd.C_drew ?_)))
                    (case side2 => exact (Kd.N_reads' HO219.out).2.1)
                    rintro e w92 ⟨v221, rfl, ho0, hb⟩
                    refine ⟨_, rfl, ?_⟩
                    have n0_ := Aside0.mk (Kd.V_elder' (by (with_reducible repeat (first | apply Kd.V_alloc | apply Kd.V_drewN | apply Kd.V_drew)); exact HO207.out) (Kd.R_base ho0) hb)
                    have n1_ := Aside0.mk (Kd.N_elder' (by (with_reducible repeat (first | apply Kd.N_alloc | apply Kd.N_drewN | apply Kd.N_drew)); exact HO219.out) (Kd.R_base ho0) hb)
                    have n2_ := Aside0.mk (Kd.R_lower ho0 (below_size (by repeat (first | (with_reducible first | exact HB.out | apply below_alloc | apply pw_below_drewN | apply below_drew1 | refine below_set ?_ GE152.out) | exact HB.out))))
                    have n3_ := Aside0.mk (blk_below (g := gb152) (o := .cells #[.int .i64 a0_0, .int .i64 a0_1, .int .i64 a0_2, .bool false, .string a0_4] 46 (0, 0)) (by (with_reducible repeat (first | refine blk_drewN ?_ _ | refine blk_drew ?_ | refine blk_alloc ?_ _)); exact BK152.out) hb)
                    have n4_ := Aside0.mk (below_step (by repeat (first | (with_reducible first | exact HB.out | apply below_alloc | apply pw_below_drewN | apply below_drew1 | refine below_set ?_ GE152.out) | exact HB.out)) hb)
                    clear HO207
                    clear HO219
                    clear BK152
                    clear HB
                    have HO207 := n0_
                    have HO219 := n1_
                    have HO222 := n2_
                    have BK152 := n3_
                    have HB := n4_
                    clear n0_ n1_ n2_ n3_ n4_
                    (try clear hb)
                    (try clear hb2)
                    (try clear hk)
                    (try clear hi)
                    (try clear ho0)
                    refine hK.out _ _ ⟨v191, v194, v197, v200, v203, v206, v209, v212, v215, .slice Ao91 y217.length co91, v221, m15_, m22_, (by rw [ha.out]; exact putSel_upk 16 hb_ rfl rfl rfl), (by (with_reducible repeat (first | refine blk_drewN ?_ _ | refine blk_drew ?_ | refine blk_alloc ?_ _)); exact BK152.out), (by repeat (first | (with_reducible first | exact HB.out | apply below_alloc | apply pw_below_drewN | apply below_drew1 | refine below_set ?_ GE152.out) | exact HB.out)), fun _ h1_ => absurd ((hon 20 (by kernel_rfl)).symm.trans h1_) (by decide), fun _ h1_ => absurd ((hon 20 (by kernel_rfl)).symm.trans h1_) (by decide), fun _ h1_ => absurd ((hon 20 (by kernel_rfl)).symm.trans h1_) (by decide), fun _ h1_ => absurd ((hon 20 (by kernel_rfl)).symm.trans h1_) (by decide), fun _ h1_ => absurd ((hon 20 (by kernel_rfl)).symm.trans h1_) (by decide), fun _ => (by (with_reducible repeat (first | apply Kd.V_alloc | apply Kd.V_drewN | apply Kd.V_drew)); exact Kd.V_mono HO207.out (fun _ hk => by first | exact ⟨hk.1.1, ⟨hk.2, hk.1.2⟩⟩ | exact hk.2 | exact hk.1 | exact hk | exact hk.1.2 | exact hk.1.1 | exact hk.2.1 | exact hk.2.2)), fun _ h1_ => absurd ((hon 20 (by kernel_rfl)).symm.trans h1_) (by decide), fun _ h1_ => absurd ((hon 20 (by kernel_rfl)).symm.trans h1_) (by decide), fun _ h1_ => absurd ((hon 20 (by kernel_rfl)).symm.trans h1_) (by decide), fun _ => (by (with_reducible repeat (first | apply Kd.N_alloc | apply Kd.N_drewN | apply Kd.N_drew)); exact Kd.N_mono HO219.out (fun _ hk => by first | exact ⟨hk.2, hk.1⟩ | exact hk.2 | exact hk.1 | exact hk | exact hk.1.2 | exact hk.1.1 | exact hk.2.1 | exact hk.2.2)), fun _ => (by (with_reducible repeat (first | apply Kd.R_alloc | apply Kd.R_drewN | apply Kd.R_drew)); exact HO222.out), Q_HM15_, Q_X15_, fun h0_ => absurd ((hoff 22 (by kernel_rfl)).symm.trans h0_) (by decide)⟩
                  refine steps_cons ?_ ?_
                  · rintro b a w' ⟨v191, v194, v197, v200, v203, v206, v209, v212, v215, v218, v221, m15_, m22_, ha, Q_BK152, Q_HB, Q_HO192, Q_HO195, Q_HO198, Q_HO201, Q_HO204, Q_HO207, Q_HO210, Q_HO213, Q_HO216, Q_HO219, Q_HO222, Q_HM15_, Q_X15_, Q_X22_⟩ hb_ hon hoff
                    refine ⟨_, rfl, fun K hK => ?_⟩
                    have e50 : a.tmps[50]? = some (v221) := by rw [ha]; exact putSel_on (e := (21, 50, v221)) 16 rfl rfl (hon 21 (by kernel_rfl)) rfl
                    replace ha := Aside0.mk ha
                    have BK152 := Aside0.mk Q_BK152
                    have HB := Aside0.mk Q_HB
                    have HO207 := Aside0.mk (Q_HO207 (hon 12 (by kernel_rfl)))
                    have HO219 := Aside0.mk (Q_HO219 (hon 20 (by kernel_rfl)))
                    have HO222 := Aside0.mk (Q_HO222 (hon 21 (by kernel_rfl)))
                    have HM15_ := Aside0.mk (Q_HM15_ (hon 14 (by kernel_rfl)))
                    refine value_ (w1 := w') (v := v221) (by rfl) rfl ?_ ?_
                    · go_simp
                      (try simp only [i64_w])
                      try rfl
                    refine hK.out _ _ ⟨v191, v194, v197, v200, v203, v206, v209, v212, v215, v218, v221, m15_, (v221), (by rw [ha.out]; exact putSel_upk 17 hb_ rfl rfl rfl), Q_BK152, Q_HB, fun _ h1_ => absurd ((hon 20 (by kernel_rfl)).symm.trans h1_) (by decide), fun _ h1_ => absurd ((hon 20 (by kernel_rfl)).symm.trans h1_) (by decide), fun _ h1_ => absurd ((hon 20 (by kernel_rfl)).symm.trans h1_) (by decide), fun _ h1_ => absurd ((hon 20 (by kernel_rfl)).symm.trans h1_) (by decide), fun _ h1_ => absurd ((hon 20 (by kernel_rfl)).symm.trans h1_) (by decide), Q_HO207, fun _ h1_ => absurd ((hon 20 (by kernel_rfl)).symm.trans h1_) (by decide), fun _ h1_ => absurd ((hon 20 (by kernel_rfl)).symm.trans h1_) (by decide), fun _ h1_ => absurd ((hon 20 (by kernel_rfl)).symm.trans h1_) (by decide), Q_HO219, Q_HO222, Q_HM15_, Q_X15_, fun _ => rfl⟩
                  refine steps_cons ?_ ?_
                  · rintro b a w' ⟨v191, v194, v197, v200, v203, v206, v209, v212, v215, v218, v221, m15_, m22_, ha, Q_BK152, Q_HB, Q_HO192, Q_HO195, Q_HO198, Q_HO201, Q_HO204, Q_HO207, Q_HO210, Q_HO213, Q_HO216, Q_HO219, Q_HO222, Q_HM15_, Q_X15_, Q_X22_⟩ hb_ hon hoff
                    refine ⟨_, rfl, fun K hK => ?_⟩
                    replace ha := Aside0.mk ha
                    have BK152 := Aside0.mk Q_BK152
                    have HB := Aside0.mk Q_HB
                    have HO207 := Aside0.mk (Q_HO207 (hon 12 (by kernel_rfl)))
                    have HO219 := Aside0.mk (Q_HO219 (hon 20 (by kernel_rfl)))
                    have HO222 := Aside0.mk (Q_HO222 (hon 21 (by kernel_rfl)))
                    have HM15_ := Aside0.mk (Q_HM15_ (hon 14 (by kernel_rfl)))
                    refine value_ (w1 := w') (v := .int .i64 0) (by rfl) rfl ?_ ?_
                    · go_simp
                      (try simp only [i64_w])
                      try rfl
                    refine hK.out _ _ ⟨v191, v194, v197, v200, v203, v206, v209, v212, v215, v218, v221, m15_, m22_, (by rw [ha.out]; exact putSel_upk 18 hb_ rfl rfl rfl), Q_BK152, Q_HB, fun _ h1_ => absurd ((hon 20 (by kernel_rfl)).symm.trans h1_) (by decide), fun _ h1_ => absurd ((hon 20 (by kernel_rfl)).symm.trans h1_) (by decide), fun _ h1_ => absurd ((hon 20 (by kernel_rfl)).symm.trans h1_) (by decide), fun _ h1_ => absurd ((hon 20 (by kernel_rfl)).symm.trans h1_) (by decide), fun _ h1_ => absurd ((hon 20 (by kernel_rfl)).symm.trans h1_) (by decide), Q_HO207, fun _ h1_ => absurd ((hon 20 (by kernel_rfl)).symm.trans h1_) (by decide), fun _ h1_ => absurd ((hon 20 (by kernel_rfl)).symm.trans h1_) (by decide), fun _ h1_ => absurd ((hon 20 (by kernel_rfl)).symm.trans h1_) (by decide), Q_HO219, Q_HO222, Q_HM15_, Q_X15_, Q_X22_⟩
                  exact steps_nil
                rintro b a w92 hall ⟨v191, v194, v197, v200, v203, v206, v209, v212, v215, v218, v221, m15_, m22_, ha, Q_BK152, Q_HB, Q_HO192, Q_HO195, Q_HO198, Q_HO201, Q_HO204, Q_HO207, Q_HO210, Q_HO213, Q_HO216, Q_HO219, Q_HO222, Q_HM15_, Q_X15_, Q_X22_⟩
                clear BK152 HB
                have hb1_ := hall 1 (by kernel_rfl)
                have hb3_ := hall 3 (by kernel_rfl)
                have hb4_ := hall 4 (by kernel_rfl)
                have hb5_ := hall 5 (by kernel_rfl)
                have hb7_ := hall 7 (by kernel_rfl)
                have hb8_ := hall 8 (by kernel_rfl)
                have hb9_ := hall 9 (by kernel_rfl)
                have hb11_ := hall 11 (by kernel_rfl)
                have hb12_ := hall 12 (by kernel_rfl)
                have hb13_ := hall 13 (by kernel_rfl)
                have hb14_ := hall 14 (by kernel_rfl)
                have hb15_ := hall 15 (by kernel_rfl)
                have hb17_ := hall 17 (by kernel_rfl)
                have hb18_ := hall 18 (by kernel_rfl)
                have hb19_ := hall 19 (by kernel_rfl)
                have hb20_ := hall 20 (by kernel_rfl)
                have hb21_ := hall 21 (by kernel_rfl)
                have hb22_ := hall 22 (by kernel_rfl)
                have hb23_ := hall 23 (by kernel_rfl)
                subst ha
                obtain rfl := Q_X15_ hb15_
                obtain rfl := Q_X22_ hb22_
                simp only [putSel, hb1_, hb3_, hb4_, hb5_, hb7_, hb8_, hb9_, hb11_, hb12_, hb13_, hb14_, hb15_, hb17_, hb18_, hb19_, hb20_, hb21_, hb22_, hb23_, if_true, Act.put, List.setIfInBounds_toArray, List.set_cons_zero, List.set_cons_succ]
                have BK152 := Aside0.mk Q_BK152
                clear Q_BK152
                have HB := Aside0.mk Q_HB
                clear Q_HB
                clear Q_HO192
                clear Q_HO195
                clear Q_HO198
                clear Q_HO201
                clear Q_HO204
                have HO207 := Aside0.mk (Q_HO207 hb12_)
                clear Q_HO207
                clear Q_HO210
                clear Q_HO213
                clear Q_HO216
                have HO219 := Aside0.mk (Q_HO219 hb20_)
                clear Q_HO219
                have HO222 := Aside0.mk (Q_HO222 hb21_)
                clear Q_HO222
                have HM15_ := Aside0.mk (Q_HM15_ hb14_)
                clear Q_HM15_
                clear hall hb1_ hb3_ hb4_ hb5_ hb7_ hb8_ hb9_ hb11_ hb12_ hb13_ hb14_ hb15_ hb17_ hb18_ hb19_ hb20_ hb21_ hb22_ hb23_
                try go_wp2
                go_ret2
                exact ⟨_, by first | rfl | (simp [errW_none, errW_some] <;> rfl) | (simp [*, errW_none, errW_some] <;> rfl), by (with_reducible repeat (first | apply Kd.R_alloc | apply Kd.R_drewN | apply Kd.R_drew)); exact HO222.out, by repeat (first | (with_reducible first | exact HB.out | apply below_alloc | apply pw_below_drewN | apply below_drew1 | refine below_set ?_ GE152.out) | exact HB.out)⟩
              · rw [if_neg c59] at H
                exact absurd H (by simp)
            · rw [if_neg c58] at H
              exact absurd H (by simp)
          · rw [if_neg c56] at H
            exact absurd H (by simp)

end Go.Proofs.Ythfhflgiblmooaa.PDh
