-- Printed by this session's own program (wip/tools/myprint.py over the kit's print, out of the translation). Nothing here is trusted: Lean checks it.
import Derived.Test.YthfhflgiblmooaaZFsPx0
import Derived.Test.YthfhflgiblmooaaZFsPx4
import Derived.Test.YthfhflgiblmooaaZFsPx11
namespace Go.Proofs.Ythfhflgiblmooaa.PFs
open Go.RowKit Go.Proofs.YthfhflgiblmooaaW.PrintWords Go.Proofs.YthfhflgiblmooaaW.PrintLast Go.Proofs.YthfhflgiblmooaaW.PrintMore
attribute [local go_sem] w64_u8 w64_u8_4 max2_int min2_int max_two min_two max_three min_three max_four min_four   -- for this text's walks alone
set_option linter.unusedVariables false
set_option linter.unusedSimpArgs false

/-! ### spec_l00Src_segment: function 92 -/
def spec_l00Src_segment.f (s0_0 : List Int) (s0_1 : Int) (s0_2 : Int) : Option (Int × Int × Int × Int × Int × Int × ByteArray × Int × Int) := (spec_l00Src_next.f s0_0 s0_1 s0_2 3).bind fun bt309 => ((some (([80, 443, 22] : List Int) : List Int)).bind fun y312 => ((spec_l00Src_next.f s0_0 bt309.2.1 bt309.2.2 3).bind fun bt315 => (if 0 ≤ bt315.1 then (if bt315.1 < (y312.length : Int) then ((spec_l00Src_next.f s0_0 bt315.2.1 bt315.2.2 300).bind fun bt319 => ((spec_l00Src_next.f s0_0 bt319.2.1 bt319.2.2 300).bind fun bt322 => ((spec_l00Src_next.f s0_0 bt322.2.1 bt322.2.2 32).bind fun bt325 => ((spec_l00Src_pick.f s0_0 bt325.2.1 bt325.2.2 (([(⟨#[]⟩ : ByteArray), (⟨#[120]⟩ : ByteArray), (⟨#[100, 97, 116, 97]⟩ : ByteArray)] : List ByteArray))).bind fun bt331 => (some (wrap64 (1000 + bt309.1), rd y312 bt315.1, bt319.1, bt322.1, bt325.1, 1000, bt331.1, bt331.2.1, bt331.2.2)))))) else (none)) else (none))))
def spec_l00Src_segment.T1 : Bool × List (List Nat × List Nat) := (true, [([], []), ([0], [0]), ([1], [1]), ([], []), ([], []), ([4, 1], [4]), ([3, 5], [3, 5]), ([6], [6]), ([], []), ([8, 5], [8]), ([], []), ([10, 9], [10]), ([], []), ([12, 11], [12]), ([], []), ([], []), ([14, 15, 13], [14, 15]), ([2, 7, 9, 11, 13, 16], [2, 7, 9, 11, 13, 16]), ([17, 16, 0, 1, 2, 3, 4, 5, 6, 7, 8, 9, 10, 11, 12, 13, 14, 15, 16, 17], [17])])
def spec_l00Src_segment.B1 : List Nat := [0, 1, 3, 0, 0, 19, 59, 123, 0, 307, 0, 1843, 0, 7987, 0, 0, 65331, 131071, 262143]
theorem spec_l00Src_segment.tab1 : rtab .any (opsOf Try.f92 1) = spec_l00Src_segment.T1 := by kernel_rfl
theorem spec_l00Src_segment.bits1 : waitsOk spec_l00Src_segment.T1.2 spec_l00Src_segment.B1 = true := by kernel_rfl
set_option maxHeartbeats 8000000 in
set_option maxRecDepth 100000 in
theorem spec_l00Src_segment.calls (g : Nat) (s0_0 : List Int) (s0_1 : Int) (s0_2 : Int) (r1 : Int) (r2 : Int) (r3 : Int) (r4 : Int) (r5 : Int) (r6 : Int) (r7 : ByteArray) (r8 : Int) (r9 : Int) (w0 w : World) (hI : IsS124 w0 w g s0_0 s0_1 s0_2) (hB : Below w0.heap.size w0 w) (h : spec_l00Src_segment.f s0_0 s0_1 s0_2 = some (r1, r2, r3, r4, r5, r6, r7, r8, r9)) :
  Calls Try.prog 92 #[.pointer (some ⟨g, 0, none⟩)] w fun e w' => e = .returned (.agg #[.int .i64 r1, .int .i64 r2, .int .i64 r3, .int .i64 r4, .int .i64 r5, .int .i64 r6, .string r7]) ∧ IsS124 w0 w' g s0_0 r8 r9 ∧ Below w0.heap.size w0 w' ∧ KeepBut w w' g none := by
 have hu67 := Try.underlying67
 have HI0 := Aside0.mk hI
 have HK := Aside0.mk (KeepBut.refl w g none)
 have HL := Aside0.mk hB.size
 clear hI
 have HW0 := Aside0.mk hB.size
 have HB := Aside0.mk hB
 clear hB
 have H : ((spec_l00Src_next.f s0_0 s0_1 s0_2 3).bind fun bt309 => ((some (([80, 443, 22] : List Int) : List Int)).bind fun y312 => ((spec_l00Src_next.f s0_0 bt309.2.1 bt309.2.2 3).bind fun bt315 => (if 0 ≤ bt315.1 then (if bt315.1 < (y312.length : Int) then ((spec_l00Src_next.f s0_0 bt315.2.1 bt315.2.2 300).bind fun bt319 => ((spec_l00Src_next.f s0_0 bt319.2.1 bt319.2.2 300).bind fun bt322 => ((spec_l00Src_next.f s0_0 bt322.2.1 bt322.2.2 32).bind fun bt325 => ((spec_l00Src_pick.f s0_0 bt325.2.1 bt325.2.2 (([(⟨#[]⟩ : ByteArray), (⟨#[120]⟩ : ByteArray), (⟨#[100, 97, 116, 97]⟩ : ByteArray)] : List ByteArray))).bind fun bt331 => (some (wrap64 (1000 + bt309.1), rd y312 bt315.1, bt319.1, bt322.1, bt325.1, 1000, bt331.1, bt331.2.1, bt331.2.2)))))) else (none)) else (none))))) = some (r1, r2, r3, r4, r5, r6, r7, r8, r9) := h
 clear h
 replace H := Option.bind_eq_some_iff.mp H
 obtain ⟨⟨t309, t310, t311⟩, A20, H⟩ := H
 replace H : ((some (([80, 443, 22] : List Int) : List Int)).bind fun y312 => ((spec_l00Src_next.f s0_0 t310 t311 3).bind fun bt315 => (if 0 ≤ bt315.1 then (if bt315.1 < (y312.length : Int) then ((spec_l00Src_next.f s0_0 bt315.2.1 bt315.2.2 300).bind fun bt319 => ((spec_l00Src_next.f s0_0 bt319.2.1 bt319.2.2 300).bind fun bt322 => ((spec_l00Src_next.f s0_0 bt322.2.1 bt322.2.2 32).bind fun bt325 => ((spec_l00Src_pick.f s0_0 bt325.2.1 bt325.2.2 (([(⟨#[]⟩ : ByteArray), (⟨#[120]⟩ : ByteArray), (⟨#[100, 97, 116, 97]⟩ : ByteArray)] : List ByteArray))).bind fun bt331 => (some (wrap64 (1000 + t309), rd y312 bt315.1, bt319.1, bt322.1, bt325.1, 1000, bt331.1, bt331.2.1, bt331.2.2)))))) else (none)) else (none)))) = some (r1, r2, r3, r4, r5, r6, r7, r8, r9) := H
 have A2 := Aside0.mk A20
 clear A20
 obtain ⟨y312, hy312⟩ : ∃ y_ : List Int, y_ = (([80, 443, 22] : List Int)) := ⟨_, rfl⟩
 replace H : ((spec_l00Src_next.f s0_0 t310 t311 3).bind fun bt315 => (if 0 ≤ bt315.1 then (if bt315.1 < (y312.length : Int) then ((spec_l00Src_next.f s0_0 bt315.2.1 bt315.2.2 300).bind fun bt319 => ((spec_l00Src_next.f s0_0 bt319.2.1 bt319.2.2 300).bind fun bt322 => ((spec_l00Src_next.f s0_0 bt322.2.1 bt322.2.2 32).bind fun bt325 => ((spec_l00Src_pick.f s0_0 bt325.2.1 bt325.2.2 (([(⟨#[]⟩ : ByteArray), (⟨#[120]⟩ : ByteArray), (⟨#[100, 97, 116, 97]⟩ : ByteArray)] : List ByteArray))).bind fun bt331 => (some (wrap64 (1000 + t309), rd y312 bt315.1, bt319.1, bt322.1, bt325.1, 1000, bt331.1, bt331.2.1, bt331.2.2)))))) else (none)) else (none))) = some (r1, r2, r3, r4, r5, r6, r7, r8, r9) := by first | (rw [hy312]; with_reducible exact H) | (have H2_ := (Option.bind_some _ _).symm.trans H; rw [hy312]; with_reducible exact H2_) | (have H2_ := (Option.bind_some _ _).symm.trans H; with_reducible exact H2_) | with_reducible exact H | (rw [hy312]; exact H) | exact H
 have Ny312 := Aside0.mk hy312
 clear hy312
 replace H := Option.bind_eq_some_iff.mp H
 obtain ⟨⟨t315, t316, t317⟩, A30, H⟩ := H
 replace H : (if 0 ≤ t315 then (if t315 < (y312.length : Int) then ((spec_l00Src_next.f s0_0 t316 t317 300).bind fun bt319 => ((spec_l00Src_next.f s0_0 bt319.2.1 bt319.2.2 300).bind fun bt322 => ((spec_l00Src_next.f s0_0 bt322.2.1 bt322.2.2 32).bind fun bt325 => ((spec_l00Src_pick.f s0_0 bt325.2.1 bt325.2.2 (([(⟨#[]⟩ : ByteArray), (⟨#[120]⟩ : ByteArray), (⟨#[100, 97, 116, 97]⟩ : ByteArray)] : List ByteArray))).bind fun bt331 => (some (wrap64 (1000 + t309), rd y312 t315, bt319.1, bt322.1, bt325.1, 1000, bt331.1, bt331.2.1, bt331.2.2)))))) else (none)) else (none)) = some (r1, r2, r3, r4, r5, r6, r7, r8, r9) := H
 have A3 := Aside0.mk A30
 clear A30
 by_cases c4 : 0 ≤ t315
 ·rw [if_pos c4] at H
  have c4b0 : decide (0 ≤ t315) = true := decide_eq_true c4
  clear c4
  by_cases c5 : t315 < (y312.length : Int)
  ·rw [if_pos c5] at H
   have c5b0 : decide (t315 < (y312.length : Int)) = true := decide_eq_true c5
   clear c5
   replace H := Option.bind_eq_some_iff.mp H
   obtain ⟨⟨t319, t320, t321⟩, A60, H⟩ := H
   replace H : ((spec_l00Src_next.f s0_0 t320 t321 300).bind fun bt322 => ((spec_l00Src_next.f s0_0 bt322.2.1 bt322.2.2 32).bind fun bt325 => ((spec_l00Src_pick.f s0_0 bt325.2.1 bt325.2.2 (([(⟨#[]⟩ : ByteArray), (⟨#[120]⟩ : ByteArray), (⟨#[100, 97, 116, 97]⟩ : ByteArray)] : List ByteArray))).bind fun bt331 => (some (wrap64 (1000 + t309), rd y312 t315, t319, bt322.1, bt325.1, 1000, bt331.1, bt331.2.1, bt331.2.2))))) = some (r1, r2, r3, r4, r5, r6, r7, r8, r9) := H
   have A6 := Aside0.mk A60
   clear A60
   replace H := Option.bind_eq_some_iff.mp H
   obtain ⟨⟨t322, t323, t324⟩, A70, H⟩ := H
   replace H : ((spec_l00Src_next.f s0_0 t323 t324 32).bind fun bt325 => ((spec_l00Src_pick.f s0_0 bt325.2.1 bt325.2.2 (([(⟨#[]⟩ : ByteArray), (⟨#[120]⟩ : ByteArray), (⟨#[100, 97, 116, 97]⟩ : ByteArray)] : List ByteArray))).bind fun bt331 => (some (wrap64 (1000 + t309), rd y312 t315, t319, t322, bt325.1, 1000, bt331.1, bt331.2.1, bt331.2.2)))) = some (r1, r2, r3, r4, r5, r6, r7, r8, r9) := H
   have A7 := Aside0.mk A70
   clear A70
   replace H := Option.bind_eq_some_iff.mp H
   obtain ⟨⟨t325, t326, t327⟩, A80, H⟩ := H
   replace H : ((spec_l00Src_pick.f s0_0 t326 t327 (([(⟨#[]⟩ : ByteArray), (⟨#[120]⟩ : ByteArray), (⟨#[100, 97, 116, 97]⟩ : ByteArray)] : List ByteArray))).bind fun bt331 => (some (wrap64 (1000 + t309), rd y312 t315, t319, t322, t325, 1000, bt331.1, bt331.2.1, bt331.2.2))) = some (r1, r2, r3, r4, r5, r6, r7, r8, r9) := H
   have A8 := Aside0.mk A80
   clear A80
   obtain ⟨y328, hy328⟩ : ∃ y_ : List ByteArray, y_ = (([(⟨#[]⟩ : ByteArray), (⟨#[120]⟩ : ByteArray), (⟨#[100, 97, 116, 97]⟩ : ByteArray)] : List ByteArray)) := ⟨_, rfl⟩
   replace H : ((spec_l00Src_pick.f s0_0 t326 t327 y328).bind fun bt331 => (some (wrap64 (1000 + t309), rd y312 t315, t319, t322, t325, 1000, bt331.1, bt331.2.1, bt331.2.2))) = some (r1, r2, r3, r4, r5, r6, r7, r8, r9) := by first | (rw [hy328]; with_reducible exact H) | (have H2_ := (Option.bind_some _ _).symm.trans H; rw [hy328]; with_reducible exact H2_) | (have H2_ := (Option.bind_some _ _).symm.trans H; with_reducible exact H2_) | with_reducible exact H | (rw [hy328]; exact H) | exact H
   have Ny328 := Aside0.mk hy328
   clear hy328
   replace H := Option.bind_eq_some_iff.mp H
   obtain ⟨⟨t331, t332, t333⟩, A90, H⟩ := H
   replace H : (some (wrap64 (1000 + t309), rd y312 t315, t319, t322, t325, 1000, t331, t332, t333)) = some (r1, r2, r3, r4, r5, r6, r7, r8, r9) := H
   have A9 := Aside0.mk A90
   clear A90
   simp only [Option.some.injEq, Prod.mk.injEq] at H
   obtain ⟨rfl, rfl, rfl, rfl, rfl, rfl, rfl, rfl, rfl⟩ := H
   go_enter Try.func92, Try.ntmps92
   try go_wp2_with (first | ((with_reducible refine gate_dst (N := 2) rfl ?_); refine box_event ?hg (N := 2) ?hd (cs := #[.int .i64 0, .int .i64 0, .int .i64 0, .int .i64 0, .int .i64 0, .int .i64 0, .string (⟨#[]⟩ : ByteArray)]) (t := 67) ?hr ?_; (case hd => rfl); (case hg => rfl); (case hr => first | (go_simp; done) | (go_simp; rfl)); intro gb308 hg w10 hbox hb; have n0_ := Aside0.mk (IsS124.below (by repeat (first | (with_reducible first | exact HI0.out | apply IsS124.alloc | apply IsS124.drewN | apply IsS124.drew | apply IsS124.set_1 | apply IsS124.set_2) | exact HI0.out)) hb); have n1_ := Aside0.mk (KeepBut.trans (by repeat (first | (with_reducible first | exact HK.out | apply KeepBut.set_ | apply keep_drewN | apply keep_drew | apply keep_alloc) | exact HK.out)) (KeepBut.of_below hb g none) (.inl rfl)); have n2_ := Aside0.mk (below_step (by repeat (first | (with_reducible first | exact HB.out | apply below_alloc | apply pw_below_drewN | apply below_drew1 | refine below_set ?_ (IsS124.ge HI0.out)) | exact HB.out)) hb); have n3_ := Aside0.mk (hbox); have n4_ := Aside0.mk ((by rw [hg]; exact (keep_size (w := w) (g := g) (row := none) (by repeat (first | (with_reducible first | exact HK.out | apply KeepBut.set_ | apply keep_drewN | apply keep_drew | apply keep_alloc) | exact HK.out))) : w.heap.size ≤ gb308)); have n5_ := Aside0.mk ((Nat.le_trans HW0.out (by rw [hg]; exact (keep_size (w := w) (g := g) (row := none) (by repeat (first | (with_reducible first | exact HK.out | apply KeepBut.set_ | apply keep_drewN | apply keep_drew | apply keep_alloc) | exact HK.out))) : w.heap.size ≤ gb308) : w0.heap.size ≤ gb308)); have n6_ := Aside0.mk ((by rw [hg]; exact Nat.ne_of_lt (IsS124.lt (show IsS124 w0 _ g s0_0 s0_1 s0_2 from by repeat (first | (with_reducible first | exact HI0.out | apply IsS124.alloc | apply IsS124.drewN | apply IsS124.drew | apply IsS124.set_1 | apply IsS124.set_2) | exact HI0.out))) : g ≠ gb308)); have n7_ := Aside0.mk ((by rw [hg]; exact Nat.ne_of_gt (IsS124.lt (show IsS124 w0 _ g s0_0 s0_1 s0_2 from by repeat (first | (with_reducible first | exact HI0.out | apply IsS124.alloc | apply IsS124.drewN | apply IsS124.drew | apply IsS124.set_1 | apply IsS124.set_2) | exact HI0.out))) : gb308 ≠ g)); clear HI0; clear HK; clear HB; have HI0 := n0_; have HK := n1_; have HB := n2_; have BK308 := n3_; have GW308 := n4_; have GE308 := n5_; have NB0_308 := n6_; have NB308_0 := n7_; clear n0_ n1_ n2_ n3_ n4_ n5_ n6_ n7_; clear hb hbox hg))
   have pi318 : (0 ≤ (t315 : Int)) = True := eq_true (of_decide_eq_true (by first | (with_reducible assumption) | assumption))
   have qi318 : (t315 < (y312.length : Int)) = True := eq_true (of_decide_eq_true (by first | (with_reducible assumption) | assumption))
   have n0_ := Aside0.mk (blk_drew BK308.out)
   have n1_ := Aside0.mk (IsS124.drew HI0.out)
   have n2_ := Aside0.mk (keep_drew HK.out)
   have n3_ := Aside0.mk (below_drew1 HB.out)
   clear BK308
   clear HI0
   clear HK
   clear HB
   have BK308 := n0_
   have HI0 := n1_
   have HK := n2_
   have HB := n3_
   clear n0_ n1_ n2_ n3_
   refine start_ (n := 19) (S := fun w' => True) (ds := []) #[false, false, false, false, false, false, false, false, false, false, false, false, false, false, false, false, false, false, false] (by kernel_rfl) rfl rfl trivial (fun hHeld => ?_); refine with_tabW spec_l00Src_segment.tab1 spec_l00Src_segment.bits1 (fun HT_ HW_ => ?_)
   generalize w10.drew = w11 at BK308 HI0 HK HB hHeld ⊢
   refine pure_ (i := 0) (N := some 3) (v := ?_) (a' := ?_) #[true, false, false, false, false, false, false, false, false, false, false, false, false, false, false, false, false, false, false] rfl rfl (any_of HT_.out (by kernel_rfl)) (fun _ _ _ h => h) (Or.inl ⟨by rfl, ?_⟩) ?_ ?_
   rotate_left
   ·intro w'
    go_simp
    with_reducible rfl
   rotate_left
   ·simp only [Act.put, List.setIfInBounds_toArray, List.set_cons_zero, List.set_cons_succ, i64_w, i32_w]
    rfl
   refine pure_ (i := 4) (N := some 7) (v := ?_) (a' := ?_) #[true, false, false, false, true, false, false, false, false, false, false, false, false, false, false, false, false, false, false] rfl rfl (any_of HT_.out (by kernel_rfl)) (fun _ _ _ h => h) (Or.inl ⟨by rfl, ?_⟩) ?_ ?_
   rotate_left
   ·intro w'
    go_simp
    with_reducible rfl
   rotate_left
   ·simp only [Act.put, List.setIfInBounds_toArray, List.set_cons_zero, List.set_cons_succ, i64_w, i32_w]
    rfl
   refine pure_ (i := 8) (N := some 11) (v := ?_) (a' := ?_) #[true, false, false, false, true, false, false, false, true, false, false, false, false, false, false, false, false, false, false] rfl rfl (any_of HT_.out (by kernel_rfl)) (fun _ _ _ h => h) (Or.inl ⟨by rfl, ?_⟩) ?_ ?_
   rotate_left
   ·intro w'
    go_simp
    with_reducible rfl
   rotate_left
   ·simp only [Act.put, List.setIfInBounds_toArray, List.set_cons_zero, List.set_cons_succ, i64_w, i32_w]
    rfl
   refine pure_ (i := 10) (N := some 13) (v := ?_) (a' := ?_) #[true, false, false, false, true, false, false, false, true, false, true, false, false, false, false, false, false, false, false] rfl rfl (any_of HT_.out (by kernel_rfl)) (fun _ _ _ h => h) (Or.inl ⟨by rfl, ?_⟩) ?_ ?_
   rotate_left
   ·intro w'
    go_simp
    with_reducible rfl
   rotate_left
   ·simp only [Act.put, List.setIfInBounds_toArray, List.set_cons_zero, List.set_cons_succ, i64_w, i32_w]
    rfl
   refine pure_ (i := 12) (N := some 15) (v := ?_) (a' := ?_) #[true, false, false, false, true, false, false, false, true, false, true, false, true, false, false, false, false, false, false] rfl rfl (any_of HT_.out (by kernel_rfl)) (fun _ _ _ h => h) (Or.inl ⟨by rfl, ?_⟩) ?_ ?_
   rotate_left
   ·intro w'
    go_simp
    with_reducible rfl
   rotate_left
   ·simp only [Act.put, List.setIfInBounds_toArray, List.set_cons_zero, List.set_cons_succ, i64_w, i32_w]
    rfl
   refine pure_ (i := 14) (N := some 17) (v := ?_) (a' := ?_) #[true, false, false, false, true, false, false, false, true, false, true, false, true, false, true, false, false, false, false] rfl rfl (any_of HT_.out (by kernel_rfl)) (fun _ _ _ h => h) (Or.inl ⟨by rfl, ?_⟩) ?_ ?_
   rotate_left
   ·intro w'
    go_simp
    with_reducible rfl
   rotate_left
   ·simp only [Act.put, List.setIfInBounds_toArray, List.set_cons_zero, List.set_cons_succ, i64_w, i32_w]
    rfl
   refine inv_at [1, 2, 3, 5, 6, 7, 9, 11, 13, 15, 16, 17, 18] (fun a0_ b a w' => ∃ (v313 : Value) (adz_v313 : Addr) (v329 : Value) (m6_ : Value), a = putSel a0_ b [(1, 4, .int .i64 t309), (2, 5, .int .i64 (wrap64 (1000 + t309))), (3, 6, v313), (5, 8, .int .i64 t315), (6, 9, m6_), (7, 10, .int .i64 (rd y312 t315)), (9, 12, .int .i64 t319), (11, 14, .int .i64 t322), (13, 16, .int .i64 t325), (15, 18, v329), (16, 19, .string t331), (17, 20, .agg #[.int .i64 (wrap64 (1000 + t309)), .int .i64 (rd y312 t315), .int .i64 t319, .int .i64 t322, .int .i64 t325, .int .i64 1000, .string t331])] ∧ (b 18 = false → w'.heap[gb308]? = some (.cells #[.int .i64 0, .int .i64 0, .int .i64 0, .int .i64 0, .int .i64 0, .int .i64 0, .string (⟨#[]⟩ : ByteArray)] 67 (0, 0))) ∧ (b 1 = false → IsS124 w0 w' g s0_0 s0_1 s0_2) ∧ (KeepBut w w' g none) ∧ (Below w0.heap.size w0 w') ∧ (b 1 = true → b 5 = false → IsS124 w0 w' g s0_0 t310 t311) ∧ (b 3 = true → Kd.R (Kd.int .i64) 3 w' w.heap.size (fun _ => True) v313 y312) ∧ (b 3 = true → ∃ c_, (v313 : Value) = .slice (some adz_v313) y312.length c_) ∧ (b 5 = true → b 9 = false → IsS124 w0 w' g s0_0 t316 t317) ∧ (b 9 = true → b 11 = false → IsS124 w0 w' g s0_0 t320 t321) ∧ (b 11 = true → b 13 = false → IsS124 w0 w' g s0_0 t323 t324) ∧ (b 13 = true → b 16 = false → IsS124 w0 w' g s0_0 t326 t327) ∧ (b 15 = true → Kd.R Kd.string 9 w' w.heap.size (fun _ => True) v329 y328) ∧ (b 16 = true → IsS124 w0 w' g s0_0 t332 t333) ∧ (b 18 = true → w'.heap[gb308]? = some (.cells #[.int .i64 (wrap64 (1000 + t309)), .int .i64 (rd y312 t315), .int .i64 t319, .int .i64 t322, .int .i64 t325, .int .i64 1000, .string t331] 67 (0, 0))) ∧ (b 6 = true → (m6_ : Value) = .pointer (some (adz_v313.add (t315).toNat)))) HT_.out HW_.out (by kernel_rfl) (by kernel_rfl) ?_ ?_ ?_
   ·exact ⟨.bool false, ⟨0, 0, none⟩, .bool false, .bool false, by simp only [putSel, Bool.false_eq_true, if_false], fun _ => BK308.out, fun _ => HI0.out, HK.out, HB.out, fun h_ => absurd h_ (by decide), fun h_ => absurd h_ (by decide), fun h_ => absurd h_ (by decide), fun h_ => absurd h_ (by decide), fun h_ => absurd h_ (by decide), fun h_ => absurd h_ (by decide), fun h_ => absurd h_ (by decide), fun h_ => absurd h_ (by decide), fun h_ => absurd h_ (by decide), fun h_ => absurd h_ (by decide), fun h_ => absurd h_ (by decide)⟩
   ·skip
    clear BK308 HB HI0 HK
    refine steps_cons ?_ ?_
    ·rintro b a w' ⟨v313, adz_v313, v329, m6_, ha, Q_BK308, Q_HI0, Q_HK, Q_HB, Q_HI0_e1, Q_HO314, Q_HA_HO314, Q_HI0_e5, Q_HI0_e9, Q_HI0_e11, Q_HI0_e13, Q_HO330, Q_HI0_e16, Q_BK308_e18, Q_X6_⟩ hb_ hon hoff
     refine ⟨_, rfl, fun K hK => ?_⟩
     have e3 : a.tmps[3]? = some (.pointer (some ⟨g, 0, none⟩)) := by rw [ha]; exact (putSel_off rfl).trans rfl
     replace ha := Aside0.mk ha
     have BK308 := Aside0.mk (Q_BK308 (hoff 18 (by kernel_rfl)))
     have HI0 := Aside0.mk (Q_HI0 hb_)
     have HK := Aside0.mk Q_HK
     have HB := Aside0.mk Q_HB
     refine goes_ Try.func105 (by kernel_rfl) rfl #[.pointer (some ⟨g, 0, none⟩), .int .i64 3] (by rfl) rfl rfl (by first | (simp only [List.map_toArray, List.map_cons, List.map_nil, Act.eval, Array.getD_eq_getD_getElem?, Option.getD_some, e3]; done) | (simp only [List.map_toArray, List.map_cons, List.map_nil, Act.eval, Array.getD_eq_getD_getElem?, Option.getD_some, e3]; rfl)) ?_
     with_reducible refine (spec_l00Src_next.calls g s0_0 s0_1 s0_2 3 t309 t310 t311 w0 _ ?side1 ?side2 A2.out).mono ?_
     (case side1 => repeat (first | (with_reducible first | exact HI0.out | apply IsS124.alloc | apply IsS124.drewN | apply IsS124.drew | apply IsS124.set_1 | apply IsS124.set_2 | refine IsS124.far ?_ NB0_308.out _) | exact HI0.out))
     (case side2 => repeat (first | (with_reducible first | exact HB.out | apply below_alloc | apply pw_below_drewN | apply below_drew1 | refine below_set ?_ (IsS124.ge HI0.out) | refine below_set ?_ GE308.out) | exact HB.out))
     rintro e w12 ⟨rfl, hi, hb, hk⟩
     refine ⟨_, rfl, ?_⟩
     have n0_ := Aside0.mk (KeepBut.blk hk (g' := gb308) (o := .cells #[.int .i64 0, .int .i64 0, .int .i64 0, .int .i64 0, .int .i64 0, .int .i64 0, .string (⟨#[]⟩ : ByteArray)] 67 (0, 0)) (by (with_reducible repeat (first | refine blk_drewN ?_ _ | refine blk_drew ?_ | refine blk_alloc ?_ _)); exact BK308.out) NB308_0.out (by simp))
     have n1_ := Aside0.mk (KeepBut.trans (by repeat (first | (with_reducible first | exact HK.out | apply KeepBut.set_ | apply keep_drewN | apply keep_drew | apply keep_alloc | refine keep_far ?_ GW308.out _) | exact HK.out)) hk (.inl rfl))
     have n2_ := Aside0.mk (hb)
     have n3_ := Aside0.mk (hi)
     have z_HO314 := fun (h0_ : b 3 = true) => (show Kd.R (Kd.int .i64) 3 w12 w.heap.size (fun _ => True) v313 y312 from Kd.R_mono (Kd.R_mono (Kd.R_keep (IsS124.apart (show IsS124 w0 _ g s0_0 s0_1 s0_2 from by repeat (first | (with_reducible first | exact HI0.out | apply IsS124.alloc | apply IsS124.drewN | apply IsS124.drew | apply IsS124.set_1 | apply IsS124.set_2 | refine IsS124.far ?_ NB0_308.out _) | exact HI0.out)) (Q_HO314 h0_) (by decide)) hk (fun _ h => h.2)) (fun _ h => h.1)) (fun _ h_ => by first | trivial | exact h_ | exact h_.1))
     have z_HO330 := fun (h0_ : b 15 = true) => (show Kd.R Kd.string 9 w12 w.heap.size (fun _ => True) v329 y328 from Kd.R_mono (Kd.R_mono (Kd.R_keep (IsS124.apart (show IsS124 w0 _ g s0_0 s0_1 s0_2 from by repeat (first | (with_reducible first | exact HI0.out | apply IsS124.alloc | apply IsS124.drewN | apply IsS124.drew | apply IsS124.set_1 | apply IsS124.set_2 | refine IsS124.far ?_ NB0_308.out _) | exact HI0.out)) (Q_HO330 h0_) (by decide)) hk (fun _ h => h.2)) (fun _ h => h.1)) (fun _ h_ => by first | trivial | exact h_ | exact h_.1))
     clear BK308
     clear HK
     clear HB
     clear HI0
     have BK308 := n0_
     have HK := n1_
     have HB := n2_
     have HI0 := n3_
     clear n0_ n1_ n2_ n3_
     (try clear hb)
     (try clear hb2)
     (try clear hk)
     (try clear hi)
     refine hK.out _ _ ⟨v313, adz_v313, v329, m6_, (by rw [ha.out]; exact putSel_upk 0 hb_ rfl rfl rfl), fun _ => (by (with_reducible repeat (first | refine blk_drewN ?_ _ | refine blk_drew ?_ | refine blk_alloc ?_ _)); exact BK308.out), fun h0_ => absurd ((up_self b 1).symm.trans h0_) (by decide), (by repeat (first | (with_reducible first | exact HK.out | apply KeepBut.set_ | apply keep_drewN | apply keep_drew | apply keep_alloc | refine keep_far ?_ GW308.out _) | exact HK.out)), (by repeat (first | (with_reducible first | exact HB.out | apply below_alloc | apply pw_below_drewN | apply below_drew1 | refine below_set ?_ (IsS124.ge HI0.out) | refine below_set ?_ GE308.out) | exact HB.out)), fun _ _ => (by repeat (first | (with_reducible first | exact HI0.out | apply IsS124.alloc | apply IsS124.drewN | apply IsS124.drew | apply IsS124.set_1 | apply IsS124.set_2 | refine IsS124.far ?_ NB0_308.out _) | exact HI0.out)), z_HO314, Q_HA_HO314, fun h0_ _ => absurd ((hoff 5 (by kernel_rfl)).symm.trans h0_) (by decide), fun h0_ _ => absurd ((hoff 9 (by kernel_rfl)).symm.trans h0_) (by decide), fun h0_ _ => absurd ((hoff 11 (by kernel_rfl)).symm.trans h0_) (by decide), fun h0_ _ => absurd ((hoff 13 (by kernel_rfl)).symm.trans h0_) (by decide), z_HO330, fun h0_ => absurd ((hoff 16 (by kernel_rfl)).symm.trans h0_) (by decide), fun h0_ => absurd ((hoff 18 (by kernel_rfl)).symm.trans h0_) (by decide), fun h0_ => absurd ((hoff 6 (by kernel_rfl)).symm.trans h0_) (by decide)⟩
    refine steps_cons ?_ ?_
    ·rintro b a w' ⟨v313, adz_v313, v329, m6_, ha, Q_BK308, Q_HI0, Q_HK, Q_HB, Q_HI0_e1, Q_HO314, Q_HA_HO314, Q_HI0_e5, Q_HI0_e9, Q_HI0_e11, Q_HI0_e13, Q_HO330, Q_HI0_e16, Q_BK308_e18, Q_X6_⟩ hb_ hon hoff
     refine ⟨_, rfl, fun K hK => ?_⟩
     have e4 : a.tmps[4]? = some (.int .i64 t309) := by rw [ha]; exact putSel_on (e := (1, 4, .int .i64 t309)) 0 rfl rfl (hon 1 (by kernel_rfl)) rfl
     replace ha := Aside0.mk ha
     have BK308 := Aside0.mk (Q_BK308 (hoff 18 (by kernel_rfl)))
     have HK := Aside0.mk Q_HK
     have HB := Aside0.mk Q_HB
     refine value_ (w1 := w') (v := .int .i64 (wrap64 (1000 + t309))) (by rfl) rfl ?_ ?_
     ·go_simp
      (try simp only [i64_w])
      try rfl
     refine hK.out _ _ ⟨v313, adz_v313, v329, m6_, (by rw [ha.out]; exact putSel_upk 1 hb_ rfl rfl rfl), Q_BK308, fun h0_ => absurd ((hon 1 (by kernel_rfl)).symm.trans h0_) (by decide), Q_HK, Q_HB, Q_HI0_e1, Q_HO314, Q_HA_HO314, Q_HI0_e5, Q_HI0_e9, Q_HI0_e11, Q_HI0_e13, Q_HO330, Q_HI0_e16, fun h0_ => absurd ((hoff 18 (by kernel_rfl)).symm.trans h0_) (by decide), Q_X6_⟩
    refine steps_cons ?_ ?_
    ·rintro b a w' ⟨v313, adz_v313, v329, m6_, ha, Q_BK308, Q_HI0, Q_HK, Q_HB, Q_HI0_e1, Q_HO314, Q_HA_HO314, Q_HI0_e5, Q_HI0_e9, Q_HI0_e11, Q_HI0_e13, Q_HO330, Q_HI0_e16, Q_BK308_e18, Q_X6_⟩ hb_ hon hoff
     refine ⟨_, rfl, fun K hK => ?_⟩
     replace ha := Aside0.mk ha
     have BK308 := Aside0.mk (Q_BK308 (hoff 18 (by kernel_rfl)))
     have HK := Aside0.mk Q_HK
     have HB := Aside0.mk Q_HB
     refine Kd.R_lit_step (Kd.int .i64) _ 3 ?hg (N := 6) ?hd (xs := ([80, 443, 22] : List Int)) (inner := [.int .i64 80, .int .i64 443, .int .i64 22]) (ok := fun _ => True) (okp := fun _ => True) ?hr ?hp (fun _ hk => hk) trivial (Below.refl _ _) (Nat.le_refl _) (by simp) ?_; (case hd => rfl); (case hg => rfl); (case hr => first | (go_simp; done) | (go_simp; rfl)); (case hp => exact (Reps.one (show Kd.M (Kd.int .i64) _ _ _ 80 [.int .i64 80] from rfl) (Reps.one (show Kd.M (Kd.int .i64) _ _ _ 443 [.int .i64 443] from rfl) (Reps.one (show Kd.M (Kd.int .i64) _ _ _ 22 [.int .i64 22] from rfl) (Reps.none _ _)))))
     intro v313 w12 ho13 hb hg_ hnew_
     clear hg_ hnew_
     (first | rw [← Ny312.out] at ho13 | (simp only [Int.reduceToNat] at ho13; rw [← Ny312.out] at ho13))
     have n0_ := Aside0.mk (Kd.R_lower ho13 (keep_size (w := w) (g := g) (row := none) (by repeat (first | (with_reducible first | exact HK.out | apply KeepBut.set_ | apply keep_drewN | apply keep_drew | apply keep_alloc | refine keep_far ?_ GW308.out _) | exact HK.out))))
     have n2_ := Aside0.mk (blk_below (g := gb308) (o := .cells #[.int .i64 0, .int .i64 0, .int .i64 0, .int .i64 0, .int .i64 0, .int .i64 0, .string (⟨#[]⟩ : ByteArray)] 67 (0, 0)) BK308.out hb)
     have n3_ := Aside0.mk (KeepBut.trans (by repeat (first | (with_reducible first | exact HK.out | apply KeepBut.set_ | apply keep_drewN | apply keep_drew | apply keep_alloc | refine keep_far ?_ GW308.out _) | exact HK.out)) (KeepBut.of_below hb g none) (.inl rfl))
     have n4_ := Aside0.mk (below_step HB.out hb)
     have z_HI0 := fun (h0_ : b 1 = false) => (show IsS124 w0 w12 g s0_0 s0_1 s0_2 from by first | exact (IsS124.below (by repeat (first | (with_reducible first | exact (Q_HI0 h0_) | apply IsS124.alloc | apply IsS124.drewN | apply IsS124.drew | apply IsS124.set_1 | apply IsS124.set_2 | refine IsS124.far ?_ NB0_308.out _) | exact (Q_HI0 h0_))) hb))
     have z_HI0_e1 := fun (h0_ : b 1 = true) (h1_ : b 5 = false) => (show IsS124 w0 w12 g s0_0 t310 t311 from by first | exact (IsS124.below (by repeat (first | (with_reducible first | exact (Q_HI0_e1 h0_ h1_) | apply IsS124.alloc | apply IsS124.drewN | apply IsS124.drew | apply IsS124.set_1 | apply IsS124.set_2 | refine IsS124.far ?_ NB0_308.out _) | exact (Q_HI0_e1 h0_ h1_))) hb))
     have z_HI0_e5 := fun (h0_ : b 5 = true) (h1_ : b 9 = false) => (show IsS124 w0 w12 g s0_0 t316 t317 from by first | exact (IsS124.below (by repeat (first | (with_reducible first | exact (Q_HI0_e5 h0_ h1_) | apply IsS124.alloc | apply IsS124.drewN | apply IsS124.drew | apply IsS124.set_1 | apply IsS124.set_2 | refine IsS124.far ?_ NB0_308.out _) | exact (Q_HI0_e5 h0_ h1_))) hb))
     have z_HI0_e9 := fun (h0_ : b 9 = true) (h1_ : b 11 = false) => (show IsS124 w0 w12 g s0_0 t320 t321 from by first | exact (IsS124.below (by repeat (first | (with_reducible first | exact (Q_HI0_e9 h0_ h1_) | apply IsS124.alloc | apply IsS124.drewN | apply IsS124.drew | apply IsS124.set_1 | apply IsS124.set_2 | refine IsS124.far ?_ NB0_308.out _) | exact (Q_HI0_e9 h0_ h1_))) hb))
     have z_HI0_e11 := fun (h0_ : b 11 = true) (h1_ : b 13 = false) => (show IsS124 w0 w12 g s0_0 t323 t324 from by first | exact (IsS124.below (by repeat (first | (with_reducible first | exact (Q_HI0_e11 h0_ h1_) | apply IsS124.alloc | apply IsS124.drewN | apply IsS124.drew | apply IsS124.set_1 | apply IsS124.set_2 | refine IsS124.far ?_ NB0_308.out _) | exact (Q_HI0_e11 h0_ h1_))) hb))
     have z_HI0_e13 := fun (h0_ : b 13 = true) (h1_ : b 16 = false) => (show IsS124 w0 w12 g s0_0 t326 t327 from by first | exact (IsS124.below (by repeat (first | (with_reducible first | exact (Q_HI0_e13 h0_ h1_) | apply IsS124.alloc | apply IsS124.drewN | apply IsS124.drew | apply IsS124.set_1 | apply IsS124.set_2 | refine IsS124.far ?_ NB0_308.out _) | exact (Q_HI0_e13 h0_ h1_))) hb))
     have z_HO330 := fun (h0_ : b 15 = true) => (show Kd.R Kd.string 9 w12 w.heap.size (fun _ => True) v329 y328 from Kd.R_mono (Kd.R_below (Q_HO330 h0_) hb) (fun _ h_ => by first | trivial | exact h_ | exact h_.1))
     have z_HI0_e16 := fun (h0_ : b 16 = true) => (show IsS124 w0 w12 g s0_0 t332 t333 from by first | exact (IsS124.below (by repeat (first | (with_reducible first | exact (Q_HI0_e16 h0_) | apply IsS124.alloc | apply IsS124.drewN | apply IsS124.drew | apply IsS124.set_1 | apply IsS124.set_2 | refine IsS124.far ?_ NB0_308.out _) | exact (Q_HI0_e16 h0_))) hb))
     clear BK308
     clear HK
     clear HB
     have HO314 := n0_
     have BK308 := n2_
     have HK := n3_
     have HB := n4_
     clear n0_ n2_ n3_ n4_
     clear hb ho13
     obtain ⟨Ao14, co14, eo14⟩ := Kd.R_slice HO314.out
     subst eo14
     obtain ⟨ado14, fo14, _⟩ := Kd.at_int (Kd.R_reads' HO314.out).2.2 0 (by decide) (by rw [Ny312.out]; simp)
     cases fo14
     refine hK.out _ _ ⟨.slice (some ado14) y312.length co14, ado14, v329, m6_, (by rw [ha.out]; exact putSel_upk 2 hb_ rfl rfl rfl), fun _ => (by (with_reducible repeat (first | refine blk_drewN ?_ _ | refine blk_drew ?_ | refine blk_alloc ?_ _)); exact BK308.out), z_HI0, (by repeat (first | (with_reducible first | exact HK.out | apply KeepBut.set_ | apply keep_drewN | apply keep_drew | apply keep_alloc | refine keep_far ?_ GW308.out _) | exact HK.out)), (by repeat (first | (with_reducible first | exact HB.out | apply below_alloc | apply pw_below_drewN | apply below_drew1 | refine below_set ?_ GE308.out) | exact HB.out)), z_HI0_e1, fun _ => (by (with_reducible repeat (first | apply Kd.R_alloc | apply Kd.R_drewN | apply Kd.R_drew)); first | exact HO314.out | exact Kd.R_mono HO314.out (fun _ h_ => by first | trivial | exact h_ | exact h_.1)), fun _ => ⟨_, rfl⟩, z_HI0_e5, z_HI0_e9, z_HI0_e11, z_HI0_e13, z_HO330, z_HI0_e16, fun h0_ => absurd ((hoff 18 (by kernel_rfl)).symm.trans h0_) (by decide), fun h0_ => absurd ((hoff 6 (by kernel_rfl)).symm.trans h0_) (by decide)⟩
    refine steps_cons ?_ ?_
    ·rintro b a w' ⟨v313, adz_v313, v329, m6_, ha, Q_BK308, Q_HI0, Q_HK, Q_HB, Q_HI0_e1, Q_HO314, Q_HA_HO314, Q_HI0_e5, Q_HI0_e9, Q_HI0_e11, Q_HI0_e13, Q_HO330, Q_HI0_e16, Q_BK308_e18, Q_X6_⟩ hb_ hon hoff
     refine ⟨_, rfl, fun K hK => ?_⟩
     have e7 : a.tmps[7]? = some (.pointer (some ⟨g, 0, none⟩)) := by rw [ha]; exact (putSel_off rfl).trans rfl
     replace ha := Aside0.mk ha
     have BK308 := Aside0.mk (Q_BK308 (hoff 18 (by kernel_rfl)))
     have HK := Aside0.mk Q_HK
     have HB := Aside0.mk Q_HB
     have HI0 := Aside0.mk (Q_HI0_e1 (hon 1 (by kernel_rfl)) hb_)
     refine goes_ Try.func105 (by kernel_rfl) rfl #[.pointer (some ⟨g, 0, none⟩), .int .i64 3] (by rfl) rfl rfl (by first | (simp only [List.map_toArray, List.map_cons, List.map_nil, Act.eval, Array.getD_eq_getD_getElem?, Option.getD_some, e7]; done) | (simp only [List.map_toArray, List.map_cons, List.map_nil, Act.eval, Array.getD_eq_getD_getElem?, Option.getD_some, e7]; rfl)) ?_
     with_reducible refine (spec_l00Src_next.calls g s0_0 t310 t311 3 t315 t316 t317 w0 _ ?side1 ?side2 A3.out).mono ?_
     (case side1 => repeat (first | (with_reducible first | exact HI0.out | apply IsS124.alloc | apply IsS124.drewN | apply IsS124.drew | apply IsS124.set_1 | apply IsS124.set_2 | refine IsS124.far ?_ NB0_308.out _) | exact HI0.out))
     (case side2 => repeat (first | (with_reducible first | exact HB.out | apply below_alloc | apply pw_below_drewN | apply below_drew1 | refine below_set ?_ (IsS124.ge HI0.out) | refine below_set ?_ GE308.out) | exact HB.out))
     rintro e w14 ⟨rfl, hi, hb, hk⟩
     refine ⟨_, rfl, ?_⟩
     have n0_ := Aside0.mk (KeepBut.blk hk (g' := gb308) (o := .cells #[.int .i64 0, .int .i64 0, .int .i64 0, .int .i64 0, .int .i64 0, .int .i64 0, .string (⟨#[]⟩ : ByteArray)] 67 (0, 0)) (by (with_reducible repeat (first | refine blk_drewN ?_ _ | refine blk_drew ?_ | refine blk_alloc ?_ _)); exact BK308.out) NB308_0.out (by simp))
     have n1_ := Aside0.mk (KeepBut.trans (by repeat (first | (with_reducible first | exact HK.out | apply KeepBut.set_ | apply keep_drewN | apply keep_drew | apply keep_alloc | refine keep_far ?_ GW308.out _) | exact HK.out)) hk (.inl rfl))
     have n2_ := Aside0.mk (hb)
     have n3_ := Aside0.mk (hi)
     have z_HO314 := fun (h0_ : b 3 = true) => (show Kd.R (Kd.int .i64) 3 w14 w.heap.size (fun _ => True) v313 y312 from Kd.R_mono (Kd.R_mono (Kd.R_keep (IsS124.apart (show IsS124 w0 _ g s0_0 t310 t311 from by repeat (first | (with_reducible first | exact HI0.out | apply IsS124.alloc | apply IsS124.drewN | apply IsS124.drew | apply IsS124.set_1 | apply IsS124.set_2 | refine IsS124.far ?_ NB0_308.out _) | exact HI0.out)) (Q_HO314 h0_) (by decide)) hk (fun _ h => h.2)) (fun _ h => h.1)) (fun _ h_ => by first | trivial | exact h_ | exact h_.1))
     have z_HO330 := fun (h0_ : b 15 = true) => (show Kd.R Kd.string 9 w14 w.heap.size (fun _ => True) v329 y328 from Kd.R_mono (Kd.R_mono (Kd.R_keep (IsS124.apart (show IsS124 w0 _ g s0_0 t310 t311 from by repeat (first | (with_reducible first | exact HI0.out | apply IsS124.alloc | apply IsS124.drewN | apply IsS124.drew | apply IsS124.set_1 | apply IsS124.set_2 | refine IsS124.far ?_ NB0_308.out _) | exact HI0.out)) (Q_HO330 h0_) (by decide)) hk (fun _ h => h.2)) (fun _ h => h.1)) (fun _ h_ => by first | trivial | exact h_ | exact h_.1))
     clear BK308
     clear HK
     clear HB
     clear HI0
     have BK308 := n0_
     have HK := n1_
     have HB := n2_
     have HI0 := n3_
     clear n0_ n1_ n2_ n3_
     (try clear hb)
     (try clear hb2)
     (try clear hk)
     (try clear hi)
     refine hK.out _ _ ⟨v313, adz_v313, v329, m6_, (by rw [ha.out]; exact putSel_upk 3 hb_ rfl rfl rfl), fun _ => (by (with_reducible repeat (first | refine blk_drewN ?_ _ | refine blk_drew ?_ | refine blk_alloc ?_ _)); exact BK308.out), fun h0_ => absurd ((hon 1 (by kernel_rfl)).symm.trans h0_) (by decide), (by repeat (first | (with_reducible first | exact HK.out | apply KeepBut.set_ | apply keep_drewN | apply keep_drew | apply keep_alloc | refine keep_far ?_ GW308.out _) | exact HK.out)), (by repeat (first | (with_reducible first | exact HB.out | apply below_alloc | apply pw_below_drewN | apply below_drew1 | refine below_set ?_ (IsS124.ge HI0.out) | refine below_set ?_ GE308.out) | exact HB.out)), fun _ h1_ => absurd ((up_self b 5).symm.trans h1_) (by decide), z_HO314, Q_HA_HO314, fun _ _ => (by repeat (first | (with_reducible first | exact HI0.out | apply IsS124.alloc | apply IsS124.drewN | apply IsS124.drew | apply IsS124.set_1 | apply IsS124.set_2 | refine IsS124.far ?_ NB0_308.out _) | exact HI0.out)), fun h0_ _ => absurd ((hoff 9 (by kernel_rfl)).symm.trans h0_) (by decide), fun h0_ _ => absurd ((hoff 11 (by kernel_rfl)).symm.trans h0_) (by decide), fun h0_ _ => absurd ((hoff 13 (by kernel_rfl)).symm.trans h0_) (by decide), z_HO330, fun h0_ => absurd ((hoff 16 (by kernel_rfl)).symm.trans h0_) (by decide), fun h0_ => absurd ((hoff 18 (by kernel_rfl)).symm.trans h0_) (by decide), fun h0_ => absurd ((hoff 6 (by kernel_rfl)).symm.trans h0_) (by decide)⟩
    refine steps_cons ?_ ?_
    ·rintro b a w' ⟨v313, adz_v313, v329, m6_, ha, Q_BK308, Q_HI0, Q_HK, Q_HB, Q_HI0_e1, Q_HO314, Q_HA_HO314, Q_HI0_e5, Q_HI0_e9, Q_HI0_e11, Q_HI0_e13, Q_HO330, Q_HI0_e16, Q_BK308_e18, Q_X6_⟩ hb_ hon hoff
     refine ⟨_, rfl, fun K hK => ?_⟩
     have e6 : a.tmps[6]? = some (v313) := by rw [ha]; exact putSel_on (e := (3, 6, v313)) 2 rfl rfl (hon 3 (by kernel_rfl)) rfl
     have e8 : a.tmps[8]? = some (.int .i64 t315) := by rw [ha]; exact putSel_on (e := (5, 8, .int .i64 t315)) 3 rfl rfl (hon 5 (by kernel_rfl)) rfl
     replace ha := Aside0.mk ha
     have BK308 := Aside0.mk (Q_BK308 (hoff 18 (by kernel_rfl)))
     have HK := Aside0.mk Q_HK
     have HB := Aside0.mk Q_HB
     have HO314 := Aside0.mk (Q_HO314 (hon 3 (by kernel_rfl)))
     have HA_HO314 := Aside0.mk (Q_HA_HO314 (hon 3 (by kernel_rfl)))
     obtain ⟨c_, hv_⟩ := HA_HO314.out
     rw [hv_] at e6
     refine value_ (w1 := w') (v := .pointer (some (adz_v313.add (t315).toNat))) (by rfl) rfl ?_ ?_
     ·go_simp
      (try simp only [i64_w])
      try rfl
     refine hK.out _ _ ⟨v313, adz_v313, v329, (.pointer (some (adz_v313.add (t315).toNat))), (by rw [ha.out]; exact putSel_upk 4 hb_ rfl rfl rfl), Q_BK308, fun h0_ => absurd ((hon 1 (by kernel_rfl)).symm.trans h0_) (by decide), Q_HK, Q_HB, fun _ h1_ => absurd ((hon 5 (by kernel_rfl)).symm.trans h1_) (by decide), Q_HO314, Q_HA_HO314, Q_HI0_e5, Q_HI0_e9, Q_HI0_e11, Q_HI0_e13, Q_HO330, Q_HI0_e16, fun h0_ => absurd ((hoff 18 (by kernel_rfl)).symm.trans h0_) (by decide), fun _ => rfl⟩
    refine steps_cons ?_ ?_
    ·rintro b a w' ⟨v313, adz_v313, v329, m6_, ha, Q_BK308, Q_HI0, Q_HK, Q_HB, Q_HI0_e1, Q_HO314, Q_HA_HO314, Q_HI0_e5, Q_HI0_e9, Q_HI0_e11, Q_HI0_e13, Q_HO330, Q_HI0_e16, Q_BK308_e18, Q_X6_⟩ hb_ hon hoff
     refine ⟨_, rfl, fun K hK => ?_⟩
     have e9 : a.tmps[9]? = some (m6_) := by rw [ha]; exact putSel_on (e := (6, 9, m6_)) 4 rfl rfl (hon 6 (by kernel_rfl)) rfl
     rw [Q_X6_ (hon 6 (by kernel_rfl))] at e9
     replace ha := Aside0.mk ha
     have BK308 := Aside0.mk (Q_BK308 (hoff 18 (by kernel_rfl)))
     have HK := Aside0.mk Q_HK
     have HB := Aside0.mk Q_HB
     have HO314 := Aside0.mk (Q_HO314 (hon 3 (by kernel_rfl)))
     have HA_HO314 := Aside0.mk (Q_HA_HO314 (hon 3 (by kernel_rfl)))
     obtain ⟨c_, hv_⟩ := HA_HO314.out
     have hF_ := HO314.out
     rw [hv_] at hF_
     obtain ⟨ad_, ea_, hx_⟩ := Kd.at_int (Kd.R_reads' hF_).2.2 t315 (of_eq_true pi318) (of_eq_true qi318)
     cases ea_
     refine value_ (w1 := w') (v := .int .i64 (rd y312 t315)) (by rfl) rfl ?_ ?_
     ·go_simp
      (try simp only [i64_w])
      try rfl
     refine hK.out _ _ ⟨v313, adz_v313, v329, m6_, (by rw [ha.out]; exact putSel_upk 5 hb_ rfl rfl rfl), Q_BK308, fun h0_ => absurd ((hon 1 (by kernel_rfl)).symm.trans h0_) (by decide), Q_HK, Q_HB, fun _ h1_ => absurd ((hon 5 (by kernel_rfl)).symm.trans h1_) (by decide), Q_HO314, Q_HA_HO314, Q_HI0_e5, Q_HI0_e9, Q_HI0_e11, Q_HI0_e13, Q_HO330, Q_HI0_e16, fun h0_ => absurd ((hoff 18 (by kernel_rfl)).symm.trans h0_) (by decide), Q_X6_⟩
    refine steps_cons ?_ ?_
    ·rintro b a w' ⟨v313, adz_v313, v329, m6_, ha, Q_BK308, Q_HI0, Q_HK, Q_HB, Q_HI0_e1, Q_HO314, Q_HA_HO314, Q_HI0_e5, Q_HI0_e9, Q_HI0_e11, Q_HI0_e13, Q_HO330, Q_HI0_e16, Q_BK308_e18, Q_X6_⟩ hb_ hon hoff
     refine ⟨_, rfl, fun K hK => ?_⟩
     have e11 : a.tmps[11]? = some (.pointer (some ⟨g, 0, none⟩)) := by rw [ha]; exact (putSel_off rfl).trans rfl
     replace ha := Aside0.mk ha
     have BK308 := Aside0.mk (Q_BK308 (hoff 18 (by kernel_rfl)))
     have HK := Aside0.mk Q_HK
     have HB := Aside0.mk Q_HB
     have HI0 := Aside0.mk (Q_HI0_e5 (hon 5 (by kernel_rfl)) hb_)
     refine goes_ Try.func105 (by kernel_rfl) rfl #[.pointer (some ⟨g, 0, none⟩), .int .i64 300] (by rfl) rfl rfl (by first | (simp only [List.map_toArray, List.map_cons, List.map_nil, Act.eval, Array.getD_eq_getD_getElem?, Option.getD_some, e11]; done) | (simp only [List.map_toArray, List.map_cons, List.map_nil, Act.eval, Array.getD_eq_getD_getElem?, Option.getD_some, e11]; rfl)) ?_
     with_reducible refine (spec_l00Src_next.calls g s0_0 t316 t317 300 t319 t320 t321 w0 _ ?side1 ?side2 A6.out).mono ?_
     (case side1 => repeat (first | (with_reducible first | exact HI0.out | apply IsS124.alloc | apply IsS124.drewN | apply IsS124.drew | apply IsS124.set_1 | apply IsS124.set_2 | refine IsS124.far ?_ NB0_308.out _) | exact HI0.out))
     (case side2 => repeat (first | (with_reducible first | exact HB.out | apply below_alloc | apply pw_below_drewN | apply below_drew1 | refine below_set ?_ (IsS124.ge HI0.out) | refine below_set ?_ GE308.out) | exact HB.out))
     rintro e w15 ⟨rfl, hi, hb, hk⟩
     refine ⟨_, rfl, ?_⟩
     have n0_ := Aside0.mk (KeepBut.blk hk (g' := gb308) (o := .cells #[.int .i64 0, .int .i64 0, .int .i64 0, .int .i64 0, .int .i64 0, .int .i64 0, .string (⟨#[]⟩ : ByteArray)] 67 (0, 0)) (by (with_reducible repeat (first | refine blk_drewN ?_ _ | refine blk_drew ?_ | refine blk_alloc ?_ _)); exact BK308.out) NB308_0.out (by simp))
     have n1_ := Aside0.mk (KeepBut.trans (by repeat (first | (with_reducible first | exact HK.out | apply KeepBut.set_ | apply keep_drewN | apply keep_drew | apply keep_alloc | refine keep_far ?_ GW308.out _) | exact HK.out)) hk (.inl rfl))
     have n2_ := Aside0.mk (hb)
     have n3_ := Aside0.mk (hi)
     have z_HO314 := fun (h0_ : b 3 = true) => (show Kd.R (Kd.int .i64) 3 w15 w.heap.size (fun _ => True) v313 y312 from Kd.R_mono (Kd.R_mono (Kd.R_keep (IsS124.apart (show IsS124 w0 _ g s0_0 t316 t317 from by repeat (first | (with_reducible first | exact HI0.out | apply IsS124.alloc | apply IsS124.drewN | apply IsS124.drew | apply IsS124.set_1 | apply IsS124.set_2 | refine IsS124.far ?_ NB0_308.out _) | exact HI0.out)) (Q_HO314 h0_) (by decide)) hk (fun _ h => h.2)) (fun _ h => h.1)) (fun _ h_ => by first | trivial | exact h_ | exact h_.1))
     have z_HO330 := fun (h0_ : b 15 = true) => (show Kd.R Kd.string 9 w15 w.heap.size (fun _ => True) v329 y328 from Kd.R_mono (Kd.R_mono (Kd.R_keep (IsS124.apart (show IsS124 w0 _ g s0_0 t316 t317 from by repeat (first | (with_reducible first | exact HI0.out | apply IsS124.alloc | apply IsS124.drewN | apply IsS124.drew | apply IsS124.set_1 | apply IsS124.set_2 | refine IsS124.far ?_ NB0_308.out _) | exact HI0.out)) (Q_HO330 h0_) (by decide)) hk (fun _ h => h.2)) (fun _ h => h.1)) (fun _ h_ => by first | trivial | exact h_ | exact h_.1))
     clear BK308
     clear HK
     clear HB
     clear HI0
     have BK308 := n0_
     have HK := n1_
     have HB := n2_
     have HI0 := n3_
     clear n0_ n1_ n2_ n3_
     (try clear hb)
     (try clear hb2)
     (try clear hk)
     (try clear hi)
     refine hK.out _ _ ⟨v313, adz_v313, v329, m6_, (by rw [ha.out]; exact putSel_upk 6 hb_ rfl rfl rfl), fun _ => (by (with_reducible repeat (first | refine blk_drewN ?_ _ | refine blk_drew ?_ | refine blk_alloc ?_ _)); exact BK308.out), fun h0_ => absurd ((hon 1 (by kernel_rfl)).symm.trans h0_) (by decide), (by repeat (first | (with_reducible first | exact HK.out | apply KeepBut.set_ | apply keep_drewN | apply keep_drew | apply keep_alloc | refine keep_far ?_ GW308.out _) | exact HK.out)), (by repeat (first | (with_reducible first | exact HB.out | apply below_alloc | apply pw_below_drewN | apply below_drew1 | refine below_set ?_ (IsS124.ge HI0.out) | refine below_set ?_ GE308.out) | exact HB.out)), fun _ h1_ => absurd ((hon 5 (by kernel_rfl)).symm.trans h1_) (by decide), z_HO314, Q_HA_HO314, fun _ h1_ => absurd ((up_self b 9).symm.trans h1_) (by decide), fun _ _ => (by repeat (first | (with_reducible first | exact HI0.out | apply IsS124.alloc | apply IsS124.drewN | apply IsS124.drew | apply IsS124.set_1 | apply IsS124.set_2 | refine IsS124.far ?_ NB0_308.out _) | exact HI0.out)), fun h0_ _ => absurd ((hoff 11 (by kernel_rfl)).symm.trans h0_) (by decide), fun h0_ _ => absurd ((hoff 13 (by kernel_rfl)).symm.trans h0_) (by decide), z_HO330, fun h0_ => absurd ((hoff 16 (by kernel_rfl)).symm.trans h0_) (by decide), fun h0_ => absurd ((hoff 18 (by kernel_rfl)).symm.trans h0_) (by decide), Q_X6_⟩
    refine steps_cons ?_ ?_
    ·rintro b a w' ⟨v313, adz_v313, v329, m6_, ha, Q_BK308, Q_HI0, Q_HK, Q_HB, Q_HI0_e1, Q_HO314, Q_HA_HO314, Q_HI0_e5, Q_HI0_e9, Q_HI0_e11, Q_HI0_e13, Q_HO330, Q_HI0_e16, Q_BK308_e18, Q_X6_⟩ hb_ hon hoff
     refine ⟨_, rfl, fun K hK => ?_⟩
     have e13 : a.tmps[13]? = some (.pointer (some ⟨g, 0, none⟩)) := by rw [ha]; exact (putSel_off rfl).trans rfl
     replace ha := Aside0.mk ha
     have BK308 := Aside0.mk (Q_BK308 (hoff 18 (by kernel_rfl)))
     have HK := Aside0.mk Q_HK
     have HB := Aside0.mk Q_HB
     have HI0 := Aside0.mk (Q_HI0_e9 (hon 9 (by kernel_rfl)) hb_)
     refine goes_ Try.func105 (by kernel_rfl) rfl #[.pointer (some ⟨g, 0, none⟩), .int .i64 300] (by rfl) rfl rfl (by first | (simp only [List.map_toArray, List.map_cons, List.map_nil, Act.eval, Array.getD_eq_getD_getElem?, Option.getD_some, e13]; done) | (simp only [List.map_toArray, List.map_cons, List.map_nil, Act.eval, Array.getD_eq_getD_getElem?, Option.getD_some, e13]; rfl)) ?_
     with_reducible refine (spec_l00Src_next.calls g s0_0 t320 t321 300 t322 t323 t324 w0 _ ?side1 ?side2 A7.out).mono ?_
     (case side1 => repeat (first | (with_reducible first | exact HI0.out | apply IsS124.alloc | apply IsS124.drewN | apply IsS124.drew | apply IsS124.set_1 | apply IsS124.set_2 | refine IsS124.far ?_ NB0_308.out _) | exact HI0.out))
     (case side2 => repeat (first | (with_reducible first | exact HB.out | apply below_alloc | apply pw_below_drewN | apply below_drew1 | refine below_set ?_ (IsS124.ge HI0.out) | refine below_set ?_ GE308.out) | exact HB.out))
     rintro e w16 ⟨rfl, hi, hb, hk⟩
     refine ⟨_, rfl, ?_⟩
     have n0_ := Aside0.mk (KeepBut.blk hk (g' := gb308) (o := .cells #[.int .i64 0, .int .i64 0, .int .i64 0, .int .i64 0, .int .i64 0, .int .i64 0, .string (⟨#[]⟩ : ByteArray)] 67 (0, 0)) (by (with_reducible repeat (first | refine blk_drewN ?_ _ | refine blk_drew ?_ | refine blk_alloc ?_ _)); exact BK308.out) NB308_0.out (by simp))
     have n1_ := Aside0.mk (KeepBut.trans (by repeat (first | (with_reducible first | exact HK.out | apply KeepBut.set_ | apply keep_drewN | apply keep_drew | apply keep_alloc | refine keep_far ?_ GW308.out _) | exact HK.out)) hk (.inl rfl))
     have n2_ := Aside0.mk (hb)
     have n3_ := Aside0.mk (hi)
     have z_HO314 := fun (h0_ : b 3 = true) => (show Kd.R (Kd.int .i64) 3 w16 w.heap.size (fun _ => True) v313 y312 from Kd.R_mono (Kd.R_mono (Kd.R_keep (IsS124.apart (show IsS124 w0 _ g s0_0 t320 t321 from by repeat (first | (with_reducible first | exact HI0.out | apply IsS124.alloc | apply IsS124.drewN | apply IsS124.drew | apply IsS124.set_1 | apply IsS124.set_2 | refine IsS124.far ?_ NB0_308.out _) | exact HI0.out)) (Q_HO314 h0_) (by decide)) hk (fun _ h => h.2)) (fun _ h => h.1)) (fun _ h_ => by first | trivial | exact h_ | exact h_.1))
     have z_HO330 := fun (h0_ : b 15 = true) => (show Kd.R Kd.string 9 w16 w.heap.size (fun _ => True) v329 y328 from Kd.R_mono (Kd.R_mono (Kd.R_keep (IsS124.apart (show IsS124 w0 _ g s0_0 t320 t321 from by repeat (first | (with_reducible first | exact HI0.out | apply IsS124.alloc | apply IsS124.drewN | apply IsS124.drew | apply IsS124.set_1 | apply IsS124.set_2 | refine IsS124.far ?_ NB0_308.out _) | exact HI0.out)) (Q_HO330 h0_) (by decide)) hk (fun _ h => h.2)) (fun _ h => h.1)) (fun _ h_ => by first | trivial | exact h_ | exact h_.1))
     clear BK308
     clear HK
     clear HB
     clear HI0
     have BK308 := n0_
     have HK := n1_
     have HB := n2_
     have HI0 := n3_
     clear n0_ n1_ n2_ n3_
     (try clear hb)
     (try clear hb2)
     (try clear hk)
     (try clear hi)
     refine hK.out _ _ ⟨v313, adz_v313, v329, m6_, (by rw [ha.out]; exact putSel_upk 7 hb_ rfl rfl rfl), fun _ => (by (with_reducible repeat (first | refine blk_drewN ?_ _ | refine blk_drew ?_ | refine blk_alloc ?_ _)); exact BK308.out), fun h0_ => absurd ((hon 1 (by kernel_rfl)).symm.trans h0_) (by decide), (by repeat (first | (with_reducible first | exact HK.out | apply KeepBut.set_ | apply keep_drewN | apply keep_drew | apply keep_alloc | refine keep_far ?_ GW308.out _) | exact HK.out)), (by repeat (first | (with_reducible first | exact HB.out | apply below_alloc | apply pw_below_drewN | apply below_drew1 | refine below_set ?_ (IsS124.ge HI0.out) | refine below_set ?_ GE308.out) | exact HB.out)), fun _ h1_ => absurd ((hon 5 (by kernel_rfl)).symm.trans h1_) (by decide), z_HO314, Q_HA_HO314, fun _ h1_ => absurd ((hon 9 (by kernel_rfl)).symm.trans h1_) (by decide), fun _ h1_ => absurd ((up_self b 11).symm.trans h1_) (by decide), fun _ _ => (by repeat (first | (with_reducible first | exact HI0.out | apply IsS124.alloc | apply IsS124.drewN | apply IsS124.drew | apply IsS124.set_1 | apply IsS124.set_2 | refine IsS124.far ?_ NB0_308.out _) | exact HI0.out)), fun h0_ _ => absurd ((hoff 13 (by kernel_rfl)).symm.trans h0_) (by decide), z_HO330, fun h0_ => absurd ((hoff 16 (by kernel_rfl)).symm.trans h0_) (by decide), fun h0_ => absurd ((hoff 18 (by kernel_rfl)).symm.trans h0_) (by decide), Q_X6_⟩
    refine steps_cons ?_ ?_
    ·rintro b a w' ⟨v313, adz_v313, v329, m6_, ha, Q_BK308, Q_HI0, Q_HK, Q_HB, Q_HI0_e1, Q_HO314, Q_HA_HO314, Q_HI0_e5, Q_HI0_e9, Q_HI0_e11, Q_HI0_e13, Q_HO330, Q_HI0_e16, Q_BK308_e18, Q_X6_⟩ hb_ hon hoff
     refine ⟨_, rfl, fun K hK => ?_⟩
     have e15 : a.tmps[15]? = some (.pointer (some ⟨g, 0, none⟩)) := by rw [ha]; exact (putSel_off rfl).trans rfl
     replace ha := Aside0.mk ha
     have BK308 := Aside0.mk (Q_BK308 (hoff 18 (by kernel_rfl)))
     have HK := Aside0.mk Q_HK
     have HB := Aside0.mk Q_HB
     have HI0 := Aside0.mk (Q_HI0_e11 (hon 11 (by kernel_rfl)) hb_)
     refine goes_ Try.func105 (by kernel_rfl) rfl #[.pointer (some ⟨g, 0, none⟩), .int .i64 32] (by rfl) rfl rfl (by first | (simp only [List.map_toArray, List.map_cons, List.map_nil, Act.eval, Array.getD_eq_getD_getElem?, Option.getD_some, e15]; done) | (simp only [List.map_toArray, List.map_cons, List.map_nil, Act.eval, Array.getD_eq_getD_getElem?, Option.getD_some, e15]; rfl)) ?_
     with_reducible refine (spec_l00Src_next.calls g s0_0 t323 t324 32 t325 t326 t327 w0 _ ?side1 ?side2 A8.out).mono ?_
     (case side1 => repeat (first | (with_reducible first | exact HI0.out | apply IsS124.alloc | apply IsS124.drewN | apply IsS124.drew | apply IsS124.set_1 | apply IsS124.set_2 | refine IsS124.far ?_ NB0_308.out _) | exact HI0.out))
     (case side2 => repeat (first | (with_reducible first | exact HB.out | apply below_alloc | apply pw_below_drewN | apply below_drew1 | refine below_set ?_ (IsS124.ge HI0.out) | refine below_set ?_ GE308.out) | exact HB.out))
     rintro e w17 ⟨rfl, hi, hb, hk⟩
     refine ⟨_, rfl, ?_⟩
     have n0_ := Aside0.mk (KeepBut.blk hk (g' := gb308) (o := .cells #[.int .i64 0, .int .i64 0, .int .i64 0, .int .i64 0, .int .i64 0, .int .i64 0, .string (⟨#[]⟩ : ByteArray)] 67 (0, 0)) (by (with_reducible repeat (first | refine blk_drewN ?_ _ | refine blk_drew ?_ | refine blk_alloc ?_ _)); exact BK308.out) NB308_0.out (by simp))
     have n1_ := Aside0.mk (KeepBut.trans (by repeat (first | (with_reducible first | exact HK.out | apply KeepBut.set_ | apply keep_drewN | apply keep_drew | apply keep_alloc | refine keep_far ?_ GW308.out _) | exact HK.out)) hk (.inl rfl))
     have n2_ := Aside0.mk (hb)
     have n3_ := Aside0.mk (hi)
     have z_HO314 := fun (h0_ : b 3 = true) => (show Kd.R (Kd.int .i64) 3 w17 w.heap.size (fun _ => True) v313 y312 from Kd.R_mono (Kd.R_mono (Kd.R_keep (IsS124.apart (show IsS124 w0 _ g s0_0 t323 t324 from by repeat (first | (with_reducible first | exact HI0.out | apply IsS124.alloc | apply IsS124.drewN | apply IsS124.drew | apply IsS124.set_1 | apply IsS124.set_2 | refine IsS124.far ?_ NB0_308.out _) | exact HI0.out)) (Q_HO314 h0_) (by decide)) hk (fun _ h => h.2)) (fun _ h => h.1)) (fun _ h_ => by first | trivial | exact h_ | exact h_.1))
     have z_HO330 := fun (h0_ : b 15 = true) => (show Kd.R Kd.string 9 w17 w.heap.size (fun _ => True) v329 y328 from Kd.R_mono (Kd.R_mono (Kd.R_keep (IsS124.apart (show IsS124 w0 _ g s0_0 t323 t324 from by repeat (first | (with_reducible first | exact HI0.out | apply IsS124.alloc | apply IsS124.drewN | apply IsS124.drew | apply IsS124.set_1 | apply IsS124.set_2 | refine IsS124.far ?_ NB0_308.out _) | exact HI0.out)) (Q_HO330 h0_) (by decide)) hk (fun _ h => h.2)) (fun _ h => h.1)) (fun _ h_ => by first | trivial | exact h_ | exact h_.1))
     clear BK308
     clear HK
     clear HB
     clear HI0
     have BK308 := n0_
     have HK := n1_
     have HB := n2_
     have HI0 := n3_
     clear n0_ n1_ n2_ n3_
     (try clear hb)
     (try clear hb2)
     (try clear hk)
     (try clear hi)
     refine hK.out _ _ ⟨v313, adz_v313, v329, m6_, (by rw [ha.out]; exact putSel_upk 8 hb_ rfl rfl rfl), fun _ => (by (with_reducible repeat (first | refine blk_drewN ?_ _ | refine blk_drew ?_ | refine blk_alloc ?_ _)); exact BK308.out), fun h0_ => absurd ((hon 1 (by kernel_rfl)).symm.trans h0_) (by decide), (by repeat (first | (with_reducible first | exact HK.out | apply KeepBut.set_ | apply keep_drewN | apply keep_drew | apply keep_alloc | refine keep_far ?_ GW308.out _) | exact HK.out)), (by repeat (first | (with_reducible first | exact HB.out | apply below_alloc | apply pw_below_drewN | apply below_drew1 | refine below_set ?_ (IsS124.ge HI0.out) | refine below_set ?_ GE308.out) | exact HB.out)), fun _ h1_ => absurd ((hon 5 (by kernel_rfl)).symm.trans h1_) (by decide), z_HO314, Q_HA_HO314, fun _ h1_ => absurd ((hon 9 (by kernel_rfl)).symm.trans h1_) (by decide), fun _ h1_ => absurd ((hon 11 (by kernel_rfl)).symm.trans h1_) (by decide), fun _ h1_ => absurd ((up_self b 13).symm.trans h1_) (by decide), fun _ _ => (by repeat (first | (with_reducible first | exact HI0.out | apply IsS124.alloc | apply IsS124.drewN | apply IsS124.drew | apply IsS124.set_1 | apply IsS124.set_2 | refine IsS124.far ?_ NB0_308.out _) | exact HI0.out)), z_HO330, fun h0_ => absurd ((hoff 16 (by kernel_rfl)).symm.trans h0_) (by decide), fun h0_ => absurd ((hoff 18 (by kernel_rfl)).symm.trans h0_) (by decide), Q_X6_⟩
    refine steps_cons ?_ ?_
    ·rintro b a w' ⟨v313, adz_v313, v329, m6_, ha, Q_BK308, Q_HI0, Q_HK, Q_HB, Q_HI0_e1, Q_HO314, Q_HA_HO314, Q_HI0_e5, Q_HI0_e9, Q_HI0_e11, Q_HI0_e13, Q_HO330, Q_HI0_e16, Q_BK308_e18, Q_X6_⟩ hb_ hon hoff
     refine ⟨_, rfl, fun K hK => ?_⟩
     replace ha := Aside0.mk ha
     have BK308 := Aside0.mk (Q_BK308 (hoff 18 (by kernel_rfl)))
     have HK := Aside0.mk Q_HK
     have HB := Aside0.mk Q_HB
     refine Kd.R_lit_step Kd.string _ 9 ?hg (N := 18) ?hd (xs := ([(⟨#[]⟩ : ByteArray), (⟨#[120]⟩ : ByteArray), (⟨#[100, 97, 116, 97]⟩ : ByteArray)] : List ByteArray)) (inner := [.string (⟨#[]⟩ : ByteArray), .string (⟨#[120]⟩ : ByteArray), .string (⟨#[100, 97, 116, 97]⟩ : ByteArray)]) (ok := fun _ => True) (okp := fun _ => True) ?hr ?hp (fun _ hk => hk) trivial (Below.refl _ _) (Nat.le_refl _) (by simp) ?_; (case hd => rfl); (case hg => rfl); (case hr => first | (go_simp; done) | (go_simp; rfl)); (case hp => exact (Reps.one (show Kd.M Kd.string _ _ _ (⟨#[]⟩ : ByteArray) [.string (⟨#[]⟩ : ByteArray)] from rfl) (Reps.one (show Kd.M Kd.string _ _ _ (⟨#[120]⟩ : ByteArray) [.string (⟨#[120]⟩ : ByteArray)] from rfl) (Reps.one (show Kd.M Kd.string _ _ _ (⟨#[100, 97, 116, 97]⟩ : ByteArray) [.string (⟨#[100, 97, 116, 97]⟩ : ByteArray)] from rfl) (Reps.none _ _)))))
     intro v329 w12 ho13 hb hg_ hnew_
     clear hg_ hnew_
     (first | rw [← Ny328.out] at ho13 | (simp only [Int.reduceToNat] at ho13; rw [← Ny328.out] at ho13))
     have n0_ := Aside0.mk (Kd.R_lower ho13 (keep_size (w := w) (g := g) (row := none) (by repeat (first | (with_reducible first | exact HK.out | apply KeepBut.set_ | apply keep_drewN | apply keep_drew | apply keep_alloc | refine keep_far ?_ GW308.out _) | exact HK.out))))
     have n2_ := Aside0.mk (blk_below (g := gb308) (o := .cells #[.int .i64 0, .int .i64 0, .int .i64 0, .int .i64 0, .int .i64 0, .int .i64 0, .string (⟨#[]⟩ : ByteArray)] 67 (0, 0)) BK308.out hb)
     have n3_ := Aside0.mk (KeepBut.trans (by repeat (first | (with_reducible first | exact HK.out | apply KeepBut.set_ | apply keep_drewN | apply keep_drew | apply keep_alloc | refine keep_far ?_ GW308.out _) | exact HK.out)) (KeepBut.of_below hb g none) (.inl rfl))
     have n4_ := Aside0.mk (below_step HB.out hb)
     have z_HI0 := fun (h0_ : b 1 = false) => (show IsS124 w0 w12 g s0_0 s0_1 s0_2 from by first | exact (IsS124.below (by repeat (first | (with_reducible first | exact (Q_HI0 h0_) | apply IsS124.alloc | apply IsS124.drewN | apply IsS124.drew | apply IsS124.set_1 | apply IsS124.set_2 | refine IsS124.far ?_ NB0_308.out _) | exact (Q_HI0 h0_))) hb))
     have z_HI0_e1 := fun (h0_ : b 1 = true) (h1_ : b 5 = false) => (show IsS124 w0 w12 g s0_0 t310 t311 from by first | exact (IsS124.below (by repeat (first | (with_reducible first | exact (Q_HI0_e1 h0_ h1_) | apply IsS124.alloc | apply IsS124.drewN | apply IsS124.drew | apply IsS124.set_1 | apply IsS124.set_2 | refine IsS124.far ?_ NB0_308.out _) | exact (Q_HI0_e1 h0_ h1_))) hb))
     have z_HO314 := fun (h0_ : b 3 = true) => (show Kd.R (Kd.int .i64) 3 w12 w.heap.size (fun _ => True) v313 y312 from Kd.R_mono (Kd.R_below (Q_HO314 h0_) hb) (fun _ h_ => by first | trivial | exact h_ | exact h_.1))
     have z_HI0_e5 := fun (h0_ : b 5 = true) (h1_ : b 9 = false) => (show IsS124 w0 w12 g s0_0 t316 t317 from by first | exact (IsS124.below (by repeat (first | (with_reducible first | exact (Q_HI0_e5 h0_ h1_) | apply IsS124.alloc | apply IsS124.drewN | apply IsS124.drew | apply IsS124.set_1 | apply IsS124.set_2 | refine IsS124.far ?_ NB0_308.out _) | exact (Q_HI0_e5 h0_ h1_))) hb))
     have z_HI0_e9 := fun (h0_ : b 9 = true) (h1_ : b 11 = false) => (show IsS124 w0 w12 g s0_0 t320 t321 from by first | exact (IsS124.below (by repeat (first | (with_reducible first | exact (Q_HI0_e9 h0_ h1_) | apply IsS124.alloc | apply IsS124.drewN | apply IsS124.drew | apply IsS124.set_1 | apply IsS124.set_2 | refine IsS124.far ?_ NB0_308.out _) | exact (Q_HI0_e9 h0_ h1_))) hb))
     have z_HI0_e11 := fun (h0_ : b 11 = true) (h1_ : b 13 = false) => (show IsS124 w0 w12 g s0_0 t323 t324 from by first | exact (IsS124.below (by repeat (first | (with_reducible first | exact (Q_HI0_e11 h0_ h1_) | apply IsS124.alloc | apply IsS124.drewN | apply IsS124.drew | apply IsS124.set_1 | apply IsS124.set_2 | refine IsS124.far ?_ NB0_308.out _) | exact (Q_HI0_e11 h0_ h1_))) hb))
     have z_HI0_e13 := fun (h0_ : b 13 = true) (h1_ : b 16 = false) => (show IsS124 w0 w12 g s0_0 t326 t327 from by first | exact (IsS124.below (by repeat (first | (with_reducible first | exact (Q_HI0_e13 h0_ h1_) | apply IsS124.alloc | apply IsS124.drewN | apply IsS124.drew | apply IsS124.set_1 | apply IsS124.set_2 | refine IsS124.far ?_ NB0_308.out _) | exact (Q_HI0_e13 h0_ h1_))) hb))
     clear BK308
     clear HK
     clear HB
     have HO330 := n0_
     have BK308 := n2_
     have HK := n3_
     have HB := n4_
     clear n0_ n2_ n3_ n4_
     clear hb ho13
     refine hK.out _ _ ⟨v313, adz_v313, v329, m6_, (by rw [ha.out]; exact putSel_upk 9 hb_ rfl rfl rfl), fun _ => (by (with_reducible repeat (first | refine blk_drewN ?_ _ | refine blk_drew ?_ | refine blk_alloc ?_ _)); exact BK308.out), z_HI0, (by repeat (first | (with_reducible first | exact HK.out | apply KeepBut.set_ | apply keep_drewN | apply keep_drew | apply keep_alloc | refine keep_far ?_ GW308.out _) | exact HK.out)), (by repeat (first | (with_reducible first | exact HB.out | apply below_alloc | apply pw_below_drewN | apply below_drew1 | refine below_set ?_ GE308.out) | exact HB.out)), z_HI0_e1, z_HO314, Q_HA_HO314, z_HI0_e5, z_HI0_e9, z_HI0_e11, z_HI0_e13, fun _ => (by (with_reducible repeat (first | apply Kd.R_alloc | apply Kd.R_drewN | apply Kd.R_drew)); first | exact HO330.out | exact Kd.R_mono HO330.out (fun _ h_ => by first | trivial | exact h_ | exact h_.1)), fun h0_ => absurd ((hoff 16 (by kernel_rfl)).symm.trans h0_) (by decide), fun h0_ => absurd ((hoff 18 (by kernel_rfl)).symm.trans h0_) (by decide), Q_X6_⟩
    refine steps_cons ?_ ?_
    ·rintro b a w' ⟨v313, adz_v313, v329, m6_, ha, Q_BK308, Q_HI0, Q_HK, Q_HB, Q_HI0_e1, Q_HO314, Q_HA_HO314, Q_HI0_e5, Q_HI0_e9, Q_HI0_e11, Q_HI0_e13, Q_HO330, Q_HI0_e16, Q_BK308_e18, Q_X6_⟩ hb_ hon hoff
     refine ⟨_, rfl, fun K hK => ?_⟩
     have e17 : a.tmps[17]? = some (.pointer (some ⟨g, 0, none⟩)) := by rw [ha]; exact (putSel_off rfl).trans rfl
     have e18 : a.tmps[18]? = some (v329) := by rw [ha]; exact putSel_on (e := (15, 18, v329)) 9 rfl rfl (hon 15 (by kernel_rfl)) rfl
     replace ha := Aside0.mk ha
     have BK308 := Aside0.mk (Q_BK308 (hoff 18 (by kernel_rfl)))
     have HK := Aside0.mk Q_HK
     have HB := Aside0.mk Q_HB
     have HI0 := Aside0.mk (Q_HI0_e13 (hon 13 (by kernel_rfl)) hb_)
     have HO330 := Aside0.mk (Q_HO330 (hon 15 (by kernel_rfl)))
     obtain ⟨Ao20, co20, eo20⟩ := Kd.R_slice HO330.out
     (first | subst eo20 | (injection eo20 with f1_ f2_ f3_; have f4_ := f1_.symm; have f5_ := f3_.symm; clear f1_ f2_ f3_; subst f4_; subst f5_))
     refine goes_ Try.func106 (by kernel_rfl) rfl #[.pointer (some ⟨g, 0, none⟩), .slice Ao20 y328.length co20] (by rfl) rfl rfl (by first | (simp only [List.map_toArray, List.map_cons, List.map_nil, Act.eval, Array.getD_eq_getD_getElem?, Option.getD_some, e17, e18]; done) | (simp only [List.map_toArray, List.map_cons, List.map_nil, Act.eval, Array.getD_eq_getD_getElem?, Option.getD_some, e17, e18]; rfl)) ?_
     with_reducible refine (spec_l00Src_pick.calls g s0_0 t326 t327 _ _ y328 t331 t332 t333 w0 _ ?side1 ?side2 ?side3 ?side4 ?side5 A9.out).mono ?_
     (case side1 => repeat (first | (with_reducible first | exact HI0.out | apply IsS124.alloc | apply IsS124.drewN | apply IsS124.drew | apply IsS124.set_1 | apply IsS124.set_2 | refine IsS124.far ?_ NB0_308.out _) | exact HI0.out))
     (case side2 => repeat (first | (with_reducible first | exact HB.out | apply below_alloc | apply pw_below_drewN | apply below_drew1 | refine below_set ?_ (IsS124.ge HI0.out) | refine below_set ?_ GE308.out) | exact HB.out))
     (case side3 => repeat (first | exact (Kd.R_reads' HO330.out).2.2 | (with_reducible refine Kd.C_alloc ?_ _) | (with_reducible refine Kd.C_drewN ?_ _) | (with_reducible refine Kd.C_drew ?_)))
     (case side4 => exact (Kd.R_reads' HO330.out).2.1)
     (case side5 => exact far_slice (IsS124.own_ne HI0.out HO330.out (by decide)))
     rintro e w21 ⟨rfl, hi, hb, hk⟩
     refine ⟨_, rfl, ?_⟩
     have n0_ := Aside0.mk (KeepBut.blk hk (g' := gb308) (o := .cells #[.int .i64 0, .int .i64 0, .int .i64 0, .int .i64 0, .int .i64 0, .int .i64 0, .string (⟨#[]⟩ : ByteArray)] 67 (0, 0)) (by (with_reducible repeat (first | refine blk_drewN ?_ _ | refine blk_drew ?_ | refine blk_alloc ?_ _)); exact BK308.out) NB308_0.out (by simp))
     have n1_ := Aside0.mk (Kd.R_mono (Kd.R_keep (IsS124.apart (show IsS124 w0 _ g s0_0 t326 t327 from by repeat (first | (with_reducible first | exact HI0.out | apply IsS124.alloc | apply IsS124.drewN | apply IsS124.drew | apply IsS124.set_1 | apply IsS124.set_2 | refine IsS124.far ?_ NB0_308.out _) | exact HI0.out)) (by (with_reducible repeat (first | apply Kd.R_alloc | apply Kd.R_drewN | apply Kd.R_drew)); exact HO330.out) (by decide)) hk (fun _ h => h.2)) (fun _ h => h.1))
     have n2_ := Aside0.mk (KeepBut.trans (by repeat (first | (with_reducible first | exact HK.out | apply KeepBut.set_ | apply keep_drewN | apply keep_drew | apply keep_alloc | refine keep_far ?_ GW308.out _) | exact HK.out)) hk (.inl rfl))
     have n3_ := Aside0.mk (hb)
     have n4_ := Aside0.mk (hi)
     have z_HO314 := fun (h0_ : b 3 = true) => (show Kd.R (Kd.int .i64) 3 w21 w.heap.size (fun _ => True) v313 y312 from Kd.R_mono (Kd.R_mono (Kd.R_keep (IsS124.apart (show IsS124 w0 _ g s0_0 t326 t327 from by repeat (first | (with_reducible first | exact HI0.out | apply IsS124.alloc | apply IsS124.drewN | apply IsS124.drew | apply IsS124.set_1 | apply IsS124.set_2 | refine IsS124.far ?_ NB0_308.out _) | exact HI0.out)) (Q_HO314 h0_) (by decide)) hk (fun _ h => h.2)) (fun _ h => h.1)) (fun _ h_ => by first | trivial | exact h_ | exact h_.1))
     clear BK308
     clear HO330
     clear HK
     clear HB
     clear HI0
     have BK308 := n0_
     have HO330 := n1_
     have HK := n2_
     have HB := n3_
     have HI0 := n4_
     clear n0_ n1_ n2_ n3_ n4_
     (try clear hb)
     (try clear hb2)
     (try clear hk)
     (try clear hi)
     refine hK.out _ _ ⟨v313, adz_v313, .slice Ao20 y328.length co20, m6_, (by rw [ha.out]; exact putSel_upk 10 hb_ rfl rfl rfl), fun _ => (by (with_reducible repeat (first | refine blk_drewN ?_ _ | refine blk_drew ?_ | refine blk_alloc ?_ _)); exact BK308.out), fun h0_ => absurd ((hon 1 (by kernel_rfl)).symm.trans h0_) (by decide), (by repeat (first | (with_reducible first | exact HK.out | apply KeepBut.set_ | apply keep_drewN | apply keep_drew | apply keep_alloc | refine keep_far ?_ GW308.out _) | exact HK.out)), (by repeat (first | (with_reducible first | exact HB.out | apply below_alloc | apply pw_below_drewN | apply below_drew1 | refine below_set ?_ (IsS124.ge HI0.out) | refine below_set ?_ GE308.out) | exact HB.out)), fun _ h1_ => absurd ((hon 5 (by kernel_rfl)).symm.trans h1_) (by decide), z_HO314, Q_HA_HO314, fun _ h1_ => absurd ((hon 9 (by kernel_rfl)).symm.trans h1_) (by decide), fun _ h1_ => absurd ((hon 11 (by kernel_rfl)).symm.trans h1_) (by decide), fun _ h1_ => absurd ((hon 13 (by kernel_rfl)).symm.trans h1_) (by decide), fun _ h1_ => absurd ((up_self b 16).symm.trans h1_) (by decide), fun _ => (by (with_reducible repeat (first | apply Kd.R_alloc | apply Kd.R_drewN | apply Kd.R_drew)); first | exact HO330.out | exact Kd.R_mono HO330.out (fun _ h_ => by first | trivial | exact h_ | exact h_.1)), fun _ => (by repeat (first | (with_reducible first | exact HI0.out | apply IsS124.alloc | apply IsS124.drewN | apply IsS124.drew | apply IsS124.set_1 | apply IsS124.set_2 | refine IsS124.far ?_ NB0_308.out _) | exact HI0.out)), fun h0_ => absurd ((hoff 18 (by kernel_rfl)).symm.trans h0_) (by decide), Q_X6_⟩
    refine steps_cons ?_ ?_
    ·rintro b a w' ⟨v313, adz_v313, v329, m6_, ha, Q_BK308, Q_HI0, Q_HK, Q_HB, Q_HI0_e1, Q_HO314, Q_HA_HO314, Q_HI0_e5, Q_HI0_e9, Q_HI0_e11, Q_HI0_e13, Q_HO330, Q_HI0_e16, Q_BK308_e18, Q_X6_⟩ hb_ hon hoff
     refine ⟨_, rfl, fun K hK => ?_⟩
     have e5 : a.tmps[5]? = some (.int .i64 (wrap64 (1000 + t309))) := by rw [ha]; exact putSel_on (e := (2, 5, .int .i64 (wrap64 (1000 + t309)))) 1 rfl rfl (hon 2 (by kernel_rfl)) rfl
     have e10 : a.tmps[10]? = some (.int .i64 (rd y312 t315)) := by rw [ha]; exact putSel_on (e := (7, 10, .int .i64 (rd y312 t315))) 5 rfl rfl (hon 7 (by kernel_rfl)) rfl
     have e12 : a.tmps[12]? = some (.int .i64 t319) := by rw [ha]; exact putSel_on (e := (9, 12, .int .i64 t319)) 6 rfl rfl (hon 9 (by kernel_rfl)) rfl
     have e14 : a.tmps[14]? = some (.int .i64 t322) := by rw [ha]; exact putSel_on (e := (11, 14, .int .i64 t322)) 7 rfl rfl (hon 11 (by kernel_rfl)) rfl
     have e16 : a.tmps[16]? = some (.int .i64 t325) := by rw [ha]; exact putSel_on (e := (13, 16, .int .i64 t325)) 8 rfl rfl (hon 13 (by kernel_rfl)) rfl
     have e19 : a.tmps[19]? = some (.string t331) := by rw [ha]; exact putSel_on (e := (16, 19, .string t331)) 10 rfl rfl (hon 16 (by kernel_rfl)) rfl
     replace ha := Aside0.mk ha
     have BK308 := Aside0.mk (Q_BK308 (hoff 18 (by kernel_rfl)))
     have HK := Aside0.mk Q_HK
     have HB := Aside0.mk Q_HB
     have HO314 := Aside0.mk (Q_HO314 (hon 3 (by kernel_rfl)))
     have HA_HO314 := Aside0.mk (Q_HA_HO314 (hon 3 (by kernel_rfl)))
     have HO330 := Aside0.mk (Q_HO330 (hon 15 (by kernel_rfl)))
     have HI0 := Aside0.mk (Q_HI0_e16 (hon 16 (by kernel_rfl)))
     refine value_ (w1 := w') (v := .agg #[.int .i64 (wrap64 (1000 + t309)), .int .i64 (rd y312 t315), .int .i64 t319, .int .i64 t322, .int .i64 t325, .int .i64 1000, .string t331]) (by rfl) rfl ?_ ?_
     ·go_simp
      (try simp only [i64_w])
      try rfl
     refine hK.out _ _ ⟨v313, adz_v313, v329, m6_, (by rw [ha.out]; exact putSel_upk 11 hb_ rfl rfl rfl), Q_BK308, fun h0_ => absurd ((hon 1 (by kernel_rfl)).symm.trans h0_) (by decide), Q_HK, Q_HB, fun _ h1_ => absurd ((hon 5 (by kernel_rfl)).symm.trans h1_) (by decide), Q_HO314, Q_HA_HO314, fun _ h1_ => absurd ((hon 9 (by kernel_rfl)).symm.trans h1_) (by decide), fun _ h1_ => absurd ((hon 11 (by kernel_rfl)).symm.trans h1_) (by decide), fun _ h1_ => absurd ((hon 13 (by kernel_rfl)).symm.trans h1_) (by decide), fun _ h1_ => absurd ((hon 16 (by kernel_rfl)).symm.trans h1_) (by decide), Q_HO330, Q_HI0_e16, fun h0_ => absurd ((hoff 18 (by kernel_rfl)).symm.trans h0_) (by decide), Q_X6_⟩
    refine steps_cons ?_ ?_
    ·rintro b a w' ⟨v313, adz_v313, v329, m6_, ha, Q_BK308, Q_HI0, Q_HK, Q_HB, Q_HI0_e1, Q_HO314, Q_HA_HO314, Q_HI0_e5, Q_HI0_e9, Q_HI0_e11, Q_HI0_e13, Q_HO330, Q_HI0_e16, Q_BK308_e18, Q_X6_⟩ hb_ hon hoff
     refine ⟨_, rfl, fun K hK => ?_⟩
     have e2 : a.tmps[2]? = some (.pointer (some ⟨gb308, 0, none⟩)) := by rw [ha]; exact (putSel_off rfl).trans rfl
     have e20 : a.tmps[20]? = some (.agg #[.int .i64 (wrap64 (1000 + t309)), .int .i64 (rd y312 t315), .int .i64 t319, .int .i64 t322, .int .i64 t325, .int .i64 1000, .string t331]) := by rw [ha]; exact putSel_on (e := (17, 20, .agg #[.int .i64 (wrap64 (1000 + t309)), .int .i64 (rd y312 t315), .int .i64 t319, .int .i64 t322, .int .i64 t325, .int .i64 1000, .string t331])) 11 rfl rfl (hon 17 (by kernel_rfl)) rfl
     replace ha := Aside0.mk ha
     have BK308 := Aside0.mk (Q_BK308 hb_)
     have HK := Aside0.mk Q_HK
     have HB := Aside0.mk Q_HB
     have HO314 := Aside0.mk (Q_HO314 (hon 3 (by kernel_rfl)))
     have HA_HO314 := Aside0.mk (Q_HA_HO314 (hon 3 (by kernel_rfl)))
     have HO330 := Aside0.mk (Q_HO330 (hon 15 (by kernel_rfl)))
     have HI0 := Aside0.mk (Q_HI0_e16 (hon 16 (by kernel_rfl)))
     obtain ⟨co25, eo25⟩ := HA_HO314.out
     clear HA_HO314
     subst eo25
     have hs26 : w'.cell? ⟨gb308, 0, none⟩ = some (.int .i64 0) := (blk_cell BK308.out 0).trans rfl
     have hfs26 := blk_frozen BK308.out 0
     have hs27 : w'.cell? ⟨gb308, 1, none⟩ = some (.int .i64 0) := (blk_cell BK308.out 1).trans rfl
     have hfs27 := blk_frozen BK308.out 1
     have hs28 : w'.cell? ⟨gb308, 2, none⟩ = some (.int .i64 0) := (blk_cell BK308.out 2).trans rfl
     have hfs28 := blk_frozen BK308.out 2
     have hs29 : w'.cell? ⟨gb308, 3, none⟩ = some (.int .i64 0) := (blk_cell BK308.out 3).trans rfl
     have hfs29 := blk_frozen BK308.out 3
     have hs30 : w'.cell? ⟨gb308, 4, none⟩ = some (.int .i64 0) := (blk_cell BK308.out 4).trans rfl
     have hfs30 := blk_frozen BK308.out 4
     have hs31 : w'.cell? ⟨gb308, 5, none⟩ = some (.int .i64 0) := (blk_cell BK308.out 5).trans rfl
     have hfs31 := blk_frozen BK308.out 5
     have hs32 : w'.cell? ⟨gb308, 6, none⟩ = some (.string (⟨#[]⟩ : ByteArray)) := (blk_cell BK308.out 6).trans rfl
     have hfs32 := blk_frozen BK308.out 6
     refine skip_ (w1 := ?_) (by rfl) rfl ?_ ?_
     rotate_left
     ·go_simp
      rfl
     refine hK.out _ _ ⟨.slice (some adz_v313) y312.length co25, adz_v313, v329, m6_, (by rw [ha.out]; exact putSel_none (v := undef) rfl), fun h0_ => absurd ((up_self b 18).symm.trans h0_) (by decide), fun h0_ => absurd ((hon 1 (by kernel_rfl)).symm.trans h0_) (by decide), (by repeat (first | (with_reducible first | exact HK.out | apply KeepBut.set_ | apply keep_drewN | apply keep_drew | apply keep_alloc | refine keep_far ?_ GW308.out _) | exact HK.out)), (by repeat (first | (with_reducible first | exact HB.out | apply below_alloc | apply pw_below_drewN | apply below_drew1 | refine below_set ?_ (IsS124.ge HI0.out) | refine below_set ?_ GE308.out) | exact HB.out)), fun _ h1_ => absurd ((hon 5 (by kernel_rfl)).symm.trans h1_) (by decide), fun _ => (by (with_reducible repeat (first | apply Kd.R_alloc | apply Kd.R_drewN | apply Kd.R_drew)); exact Kd.R_mono (Kd.R_far (p := ⟨gb308, 6, none⟩) (Kd.R_far (p := ⟨gb308, 5, none⟩) (Kd.R_far (p := ⟨gb308, 4, none⟩) (Kd.R_far (p := ⟨gb308, 3, none⟩) (Kd.R_far (p := ⟨gb308, 2, none⟩) (Kd.R_far (p := ⟨gb308, 1, none⟩) (Kd.R_far (p := ⟨gb308, 0, none⟩) (Kd.R_types HO314.out BK308.out (by decide)) (fun _ hk => by first | trivial | exact hk.2 | exact hk.2 | exact hk.1 | exact hk | exact hk.1.2 | exact hk.1.1 | exact hk.2.1 | exact hk.2.2) (.int .i64 (wrap64 (1000 + t309)))) (fun _ hk => by first | trivial | exact hk.2 | exact hk.2 | exact hk.1 | exact hk | exact hk.1.2 | exact hk.1.1 | exact hk.2.1 | exact hk.2.2) (.int .i64 (rd y312 t315))) (fun _ hk => by first | trivial | exact hk.2 | exact hk.2 | exact hk.1 | exact hk | exact hk.1.2 | exact hk.1.1 | exact hk.2.1 | exact hk.2.2) (.int .i64 t319)) (fun _ hk => by first | trivial | exact hk.2 | exact hk.2 | exact hk.1 | exact hk | exact hk.1.2 | exact hk.1.1 | exact hk.2.1 | exact hk.2.2) (.int .i64 t322)) (fun _ hk => by first | trivial | exact hk.2 | exact hk.2 | exact hk.1 | exact hk | exact hk.1.2 | exact hk.1.1 | exact hk.2.1 | exact hk.2.2) (.int .i64 t325)) (fun _ hk => by first | trivial | exact hk.2 | exact hk.2 | exact hk.1 | exact hk | exact hk.1.2 | exact hk.1.1 | exact hk.2.1 | exact hk.2.2) (.int .i64 1000)) (fun _ hk => by first | trivial | exact hk.2 | exact hk.2 | exact hk.1 | exact hk | exact hk.1.2 | exact hk.1.1 | exact hk.2.1 | exact hk.2.2) (.string t331)) (fun _ hk => trivial)), fun _ => ⟨_, rfl⟩, fun _ h1_ => absurd ((hon 9 (by kernel_rfl)).symm.trans h1_) (by decide), fun _ h1_ => absurd ((hon 11 (by kernel_rfl)).symm.trans h1_) (by decide), fun _ h1_ => absurd ((hon 13 (by kernel_rfl)).symm.trans h1_) (by decide), fun _ h1_ => absurd ((hon 16 (by kernel_rfl)).symm.trans h1_) (by decide), fun _ => (by (with_reducible repeat (first | apply Kd.R_alloc | apply Kd.R_drewN | apply Kd.R_drew)); exact Kd.R_mono (Kd.R_far (p := ⟨gb308, 6, none⟩) (Kd.R_far (p := ⟨gb308, 5, none⟩) (Kd.R_far (p := ⟨gb308, 4, none⟩) (Kd.R_far (p := ⟨gb308, 3, none⟩) (Kd.R_far (p := ⟨gb308, 2, none⟩) (Kd.R_far (p := ⟨gb308, 1, none⟩) (Kd.R_far (p := ⟨gb308, 0, none⟩) (Kd.R_types HO330.out BK308.out (by decide)) (fun _ hk => by first | trivial | exact hk.2 | exact hk.2 | exact hk.1 | exact hk | exact hk.1.2 | exact hk.1.1 | exact hk.2.1 | exact hk.2.2) (.int .i64 (wrap64 (1000 + t309)))) (fun _ hk => by first | trivial | exact hk.2 | exact hk.2 | exact hk.1 | exact hk | exact hk.1.2 | exact hk.1.1 | exact hk.2.1 | exact hk.2.2) (.int .i64 (rd y312 t315))) (fun _ hk => by first | trivial | exact hk.2 | exact hk.2 | exact hk.1 | exact hk | exact hk.1.2 | exact hk.1.1 | exact hk.2.1 | exact hk.2.2) (.int .i64 t319)) (fun _ hk => by first | trivial | exact hk.2 | exact hk.2 | exact hk.1 | exact hk | exact hk.1.2 | exact hk.1.1 | exact hk.2.1 | exact hk.2.2) (.int .i64 t322)) (fun _ hk => by first | trivial | exact hk.2 | exact hk.2 | exact hk.1 | exact hk | exact hk.1.2 | exact hk.1.1 | exact hk.2.1 | exact hk.2.2) (.int .i64 t325)) (fun _ hk => by first | trivial | exact hk.2 | exact hk.2 | exact hk.1 | exact hk | exact hk.1.2 | exact hk.1.1 | exact hk.2.1 | exact hk.2.2) (.int .i64 1000)) (fun _ hk => by first | trivial | exact hk.2 | exact hk.2 | exact hk.1 | exact hk | exact hk.1.2 | exact hk.1.1 | exact hk.2.1 | exact hk.2.2) (.string t331)) (fun _ hk => trivial)), fun _ => (by repeat (first | (with_reducible first | exact HI0.out | apply IsS124.alloc | apply IsS124.drewN | apply IsS124.drew | apply IsS124.set_1 | apply IsS124.set_2 | refine IsS124.far ?_ NB0_308.out _) | exact HI0.out)), fun _ => (by (with_reducible repeat (first | refine blk_drewN ?_ _ | refine blk_drew ?_ | refine blk_alloc ?_ _)); refine blk_put (cs := #[.int .i64 (wrap64 (1000 + t309)), .int .i64 (rd y312 t315), .int .i64 t319, .int .i64 t322, .int .i64 t325, .int .i64 1000, .string (⟨#[]⟩ : ByteArray)]) ?_ 6 _ rfl; (with_reducible repeat (first | refine blk_drewN ?_ _ | refine blk_drew ?_ | refine blk_alloc ?_ _)); refine blk_put (cs := #[.int .i64 (wrap64 (1000 + t309)), .int .i64 (rd y312 t315), .int .i64 t319, .int .i64 t322, .int .i64 t325, .int .i64 0, .string (⟨#[]⟩ : ByteArray)]) ?_ 5 _ rfl; (with_reducible repeat (first | refine blk_drewN ?_ _ | refine blk_drew ?_ | refine blk_alloc ?_ _)); refine blk_put (cs := #[.int .i64 (wrap64 (1000 + t309)), .int .i64 (rd y312 t315), .int .i64 t319, .int .i64 t322, .int .i64 0, .int .i64 0, .string (⟨#[]⟩ : ByteArray)]) ?_ 4 _ rfl; (with_reducible repeat (first | refine blk_drewN ?_ _ | refine blk_drew ?_ | refine blk_alloc ?_ _)); refine blk_put (cs := #[.int .i64 (wrap64 (1000 + t309)), .int .i64 (rd y312 t315), .int .i64 t319, .int .i64 0, .int .i64 0, .int .i64 0, .string (⟨#[]⟩ : ByteArray)]) ?_ 3 _ rfl; (with_reducible repeat (first | refine blk_drewN ?_ _ | refine blk_drew ?_ | refine blk_alloc ?_ _)); refine blk_put (cs := #[.int .i64 (wrap64 (1000 + t309)), .int .i64 (rd y312 t315), .int .i64 0, .int .i64 0, .int .i64 0, .int .i64 0, .string (⟨#[]⟩ : ByteArray)]) ?_ 2 _ rfl; (with_reducible repeat (first | refine blk_drewN ?_ _ | refine blk_drew ?_ | refine blk_alloc ?_ _)); refine blk_put (cs := #[.int .i64 (wrap64 (1000 + t309)), .int .i64 0, .int .i64 0, .int .i64 0, .int .i64 0, .int .i64 0, .string (⟨#[]⟩ : ByteArray)]) ?_ 1 _ rfl; (with_reducible repeat (first | refine blk_drewN ?_ _ | refine blk_drew ?_ | refine blk_alloc ?_ _)); refine blk_put (cs := #[.int .i64 0, .int .i64 0, .int .i64 0, .int .i64 0, .int .i64 0, .int .i64 0, .string (⟨#[]⟩ : ByteArray)]) ?_ 0 _ rfl; (with_reducible repeat (first | refine blk_drewN ?_ _ | refine blk_drew ?_ | refine blk_alloc ?_ _)); exact BK308.out), Q_X6_⟩
    exact steps_nil
   rintro b a w31 hall ⟨v313, adz_v313, v329, m6_, ha, Q_BK308, Q_HI0, Q_HK, Q_HB, Q_HI0_e1, Q_HO314, Q_HA_HO314, Q_HI0_e5, Q_HI0_e9, Q_HI0_e11, Q_HI0_e13, Q_HO330, Q_HI0_e16, Q_BK308_e18, Q_X6_⟩
   clear BK308 HB HI0 HK
   have hb1_ := hall 1 (by kernel_rfl)
   have hb2_ := hall 2 (by kernel_rfl)
   have hb3_ := hall 3 (by kernel_rfl)
   have hb5_ := hall 5 (by kernel_rfl)
   have hb6_ := hall 6 (by kernel_rfl)
   have hb7_ := hall 7 (by kernel_rfl)
   have hb9_ := hall 9 (by kernel_rfl)
   have hb11_ := hall 11 (by kernel_rfl)
   have hb13_ := hall 13 (by kernel_rfl)
   have hb15_ := hall 15 (by kernel_rfl)
   have hb16_ := hall 16 (by kernel_rfl)
   have hb17_ := hall 17 (by kernel_rfl)
   have hb18_ := hall 18 (by kernel_rfl)
   subst ha
   obtain rfl := Q_X6_ hb6_
   simp only [putSel, hb1_, hb2_, hb3_, hb5_, hb6_, hb7_, hb9_, hb11_, hb13_, hb15_, hb16_, hb17_, hb18_, if_true, Act.put, List.setIfInBounds_toArray, List.set_cons_zero, List.set_cons_succ]
   clear Q_BK308
   clear Q_HI0
   have HK := Aside0.mk Q_HK
   clear Q_HK
   have HB := Aside0.mk Q_HB
   clear Q_HB
   clear Q_HI0_e1
   have HO314 := Aside0.mk (Q_HO314 hb3_)
   clear Q_HO314
   have HA_HO314 := Aside0.mk (Q_HA_HO314 hb3_)
   clear Q_HA_HO314
   clear Q_HI0_e5
   clear Q_HI0_e9
   clear Q_HI0_e11
   clear Q_HI0_e13
   have HO330 := Aside0.mk (Q_HO330 hb15_)
   clear Q_HO330
   have HI0 := Aside0.mk (Q_HI0_e16 hb16_)
   clear Q_HI0_e16
   have BK308 := Aside0.mk (Q_BK308_e18 hb18_)
   clear Q_BK308_e18
   clear hall hb1_ hb2_ hb3_ hb5_ hb6_ hb7_ hb9_ hb11_ hb13_ hb15_ hb16_ hb17_ hb18_
   obtain ⟨co32, eo32⟩ := HA_HO314.out
   clear HA_HO314
   subst eo32
   try go_wp2
   refine bodyPost_ret (results_cell_row rfl _ _ gb308 67 #[.int .i64 (wrap64 (1000 + t309)), .int .i64 (rd y312 t315), .int .i64 t319, .int .i64 t322, .int .i64 t325, .int .i64 1000, .string t331] (0, 0) _ rfl (by (with_reducible repeat (first | refine blk_drewN ?_ _ | refine blk_drew ?_ | refine blk_alloc ?_ _)); exact BK308.out) Try.underlying67 rfl (by kernel_rfl)) rfl ?_
   exact ⟨by first | rfl | (simp [errW_none, errW_some] <;> rfl) | (simp [*, errW_none, errW_some] <;> rfl), by repeat (first | (with_reducible first | exact HI0.out | apply IsS124.alloc | apply IsS124.drewN | apply IsS124.drew | apply IsS124.set_1 | apply IsS124.set_2 | refine IsS124.far ?_ NB0_308.out _) | exact HI0.out), by repeat (first | (with_reducible first | exact HB.out | apply below_alloc | apply pw_below_drewN | apply below_drew1 | refine below_set ?_ (IsS124.ge HI0.out) | refine below_set ?_ GE308.out) | exact HB.out), by repeat (first | (with_reducible first | exact HK.out | apply KeepBut.set_ | apply keep_drewN | apply keep_drew | apply keep_alloc | refine keep_far ?_ GW308.out _) | exact HK.out)⟩
  ·rw [if_neg c5] at H
   exact absurd H (by simp)
 ·rw [if_neg c4] at H
  exact absurd H (by simp)

/-! ### spec_SegmentOf: function 48 -/
def spec_SegmentOf.f (l0 : List Int) : Option (Int × Int × Int × Int × Int × Int × ByteArray) := (spec_l00Source.f l0).bind fun bt335 => ((spec_l00Src_segment.f bt335.1 bt335.2.1 bt335.2.2).bind fun bt339 => (some (bt339.1, bt339.2.1, bt339.2.2.1, bt339.2.2.2.1, bt339.2.2.2.2.1, bt339.2.2.2.2.2.1, bt339.2.2.2.2.2.2.1)))
set_option maxHeartbeats 8000000 in
set_option maxRecDepth 100000 in
theorem spec_SegmentOf.calls (A0 : Option Addr) (c0 : Nat) (l0 : List Int) (r1 : Int) (r2 : Int) (r3 : Int) (r4 : Int) (r5 : Int) (r6 : Int) (r7 : ByteArray) (w : World) (hr0 : Kd.C (Kd.int .u8) w A0 l0.length l0) (hc0 : l0.length ≤ c0) (h : spec_SegmentOf.f l0 = some (r1, r2, r3, r4, r5, r6, r7)) :
  Calls Try.prog 48 #[.slice A0 l0.length c0] w fun e w' => e = .returned (.agg #[.int .i64 r1, .int .i64 r2, .int .i64 r3, .int .i64 r4, .int .i64 r5, .int .i64 r6, .string r7]) ∧ Below w.heap.size w w' := by
 have hu67 := Try.underlying67
 have HR0 := Aside0.mk hr0
 have HC0 := Aside0.mk hc0
 clear hr0 hc0
 have HB := Aside0.mk (Below.refl w.heap.size w)
 have H : ((spec_l00Source.f l0).bind fun bt335 => ((spec_l00Src_segment.f bt335.1 bt335.2.1 bt335.2.2).bind fun bt339 => (some (bt339.1, bt339.2.1, bt339.2.2.1, bt339.2.2.2.1, bt339.2.2.2.2.1, bt339.2.2.2.2.2.1, bt339.2.2.2.2.2.2.1)))) = some (r1, r2, r3, r4, r5, r6, r7) := h
 clear h
 replace H := Option.bind_eq_some_iff.mp H
 obtain ⟨⟨t335, t336, t337⟩, A20, H⟩ := H
 replace H : ((spec_l00Src_segment.f t335 t336 t337).bind fun bt339 => (some (bt339.1, bt339.2.1, bt339.2.2.1, bt339.2.2.2.1, bt339.2.2.2.2.1, bt339.2.2.2.2.2.1, bt339.2.2.2.2.2.2.1))) = some (r1, r2, r3, r4, r5, r6, r7) := H
 have A2 := Aside0.mk A20
 clear A20
 replace H := Option.bind_eq_some_iff.mp H
 obtain ⟨⟨t339, t340, t341, t342, t343, t344, t345, t346, t347⟩, A30, H⟩ := H
 replace H : (some (t339, t340, t341, t342, t343, t344, t345)) = some (r1, r2, r3, r4, r5, r6, r7) := H
 have A3 := Aside0.mk A30
 clear A30
 simp only [Option.some.injEq, Prod.mk.injEq] at H
 obtain ⟨rfl, rfl, rfl, rfl, rfl, rfl, rfl⟩ := H
 go_enter Try.func48, Try.ntmps48
 go_wp2_with (first | ((with_reducible refine gate_dst (N := 2) rfl ?_); refine box_event ?hg (N := 2) ?hd (cs := #[.int .i64 0, .int .i64 0, .int .i64 0, .int .i64 0, .int .i64 0, .int .i64 0, .string (⟨#[]⟩ : ByteArray)]) (t := 67) ?hr ?_; (case hd => rfl); (case hg => rfl); (case hr => first | (go_simp; done) | (go_simp; rfl)); intro gb334 hg w4 hbox hb; have n0_ := Aside0.mk (below_step (by repeat (first | (with_reducible first | exact HB.out | apply below_alloc | apply pw_below_drewN | apply below_drew1) | exact HB.out)) hb); have n1_ := Aside0.mk (hbox); have n2_ := Aside0.mk ((by rw [hg]; exact (below_size (by repeat (first | (with_reducible first | exact HB.out | apply below_alloc | apply pw_below_drewN | apply below_drew1) | exact HB.out))) : w.heap.size ≤ gb334)); have n3_ := Aside0.mk ((by rw [hg]; exact (below_size (by repeat (first | (with_reducible first | exact HB.out | apply below_alloc | apply pw_below_drewN | apply below_drew1) | exact HB.out))) : w.heap.size ≤ gb334)); clear HB; have HB := n0_; have BK334 := n1_; have GW334 := n2_; have GE334 := n3_; clear n0_ n1_ n2_ n3_; clear hb hbox hg) | ((with_reducible refine gate_callee (f := 88) rfl ?_); refine goesL_ (some 4) rfl rfl Try.func88 (by kernel_rfl) rfl #[.slice A0 l0.length c0] rfl (by (try simp only [List.map_toArray, List.map_cons, List.map_nil]); first | done | rfl | (simp only [List.length_drop, List.length_take]; rfl)) ?_; (with_reducible refine (spec_l00Source.calls _ _ l0 t335 t336 t337 w _ ?side1 ?side2 ?side3 A2.out).mono ?_); (case side1 => repeat (first | (with_reducible first | exact HB.out | apply below_alloc | apply pw_below_drewN | apply below_drew1 | refine below_set ?_ GE334.out) | exact HB.out)); (case side2 => exact HR0.out); (case side3 => exact HC0.out); rintro e w5 ⟨g338, rfl, hi, hb, hb2⟩; refine ⟨_, rfl, ?_⟩; have n0_ := Aside0.mk (blk_below (g := gb334) (o := .cells #[.int .i64 0, .int .i64 0, .int .i64 0, .int .i64 0, .int .i64 0, .int .i64 0, .string (⟨#[]⟩ : ByteArray)] 67 (0, 0)) (by (with_reducible repeat (first | refine blk_drewN ?_ _ | refine blk_drew ?_ | refine blk_alloc ?_ _)); exact BK334.out) hb2); have n1_ := Aside0.mk (hb); have n2_ := Aside0.mk (hi); have n3_ := Aside0.mk (IsS124.ne_blk hi (blk_below (g := gb334) (o := .cells #[.int .i64 0, .int .i64 0, .int .i64 0, .int .i64 0, .int .i64 0, .int .i64 0, .string (⟨#[]⟩ : ByteArray)] 67 (0, 0)) (by (with_reducible repeat (first | refine blk_drewN ?_ _ | refine blk_drew ?_ | refine blk_alloc ?_ _)); exact BK334.out) hb2) (by decide)); have n4_ := Aside0.mk (Ne.symm (IsS124.ne_blk hi (blk_below (g := gb334) (o := .cells #[.int .i64 0, .int .i64 0, .int .i64 0, .int .i64 0, .int .i64 0, .int .i64 0, .string (⟨#[]⟩ : ByteArray)] 67 (0, 0)) (by (with_reducible repeat (first | refine blk_drewN ?_ _ | refine blk_drew ?_ | refine blk_alloc ?_ _)); exact BK334.out) hb2) (by decide))); clear BK334; clear HB; have BK334 := n0_; have HB := n1_; have HI338 := n2_; have NB338_334 := n3_; have NB334_338 := n4_; clear n0_ n1_ n2_ n3_ n4_; (try clear hb); (try clear hb2); (try clear hk); (try clear hi)) | ((with_reducible refine gate_callee (f := 92) rfl ?_); refine goesL_ (some 5) rfl rfl Try.func92 (by kernel_rfl) rfl #[.pointer (some ⟨g338, 0, none⟩)] rfl (by (try simp only [List.map_toArray, List.map_cons, List.map_nil]); first | done | rfl | (simp only [List.length_drop, List.length_take]; rfl)) ?_; (with_reducible refine (spec_l00Src_segment.calls g338 t335 t336 t337 t339 t340 t341 t342 t343 t344 t345 t346 t347 w _ ?side1 ?side2 A3.out).mono ?_); (case side1 => repeat (first | (with_reducible first | exact HI338.out | apply IsS124.alloc | apply IsS124.drewN | apply IsS124.drew | apply IsS124.set_1 | apply IsS124.set_2 | refine IsS124.far ?_ NB338_334.out _) | exact HI338.out)); (case side2 => repeat (first | (with_reducible first | exact HB.out | apply below_alloc | apply pw_below_drewN | apply below_drew1 | refine below_set ?_ (IsS124.ge HI338.out) | refine below_set ?_ GE334.out) | exact HB.out)); rintro e w6 ⟨rfl, hi, hb, hk⟩; refine ⟨_, rfl, ?_⟩; have n0_ := Aside0.mk (KeepBut.blk hk (g' := gb334) (o := .cells #[.int .i64 0, .int .i64 0, .int .i64 0, .int .i64 0, .int .i64 0, .int .i64 0, .string (⟨#[]⟩ : ByteArray)] 67 (0, 0)) (by (with_reducible repeat (first | refine blk_drewN ?_ _ | refine blk_drew ?_ | refine blk_alloc ?_ _)); exact BK334.out) NB334_338.out (by simp)); have n1_ := Aside0.mk (hb); have n2_ := Aside0.mk (hi); clear BK334; clear HB; clear HI338; have BK334 := n0_; have HB := n1_; have HI338 := n2_; clear n0_ n1_ n2_; (try clear hb); (try clear hb2); (try clear hk); (try clear hi); have hnb7 := NB334_338.out; have hnc7 := NB338_334.out; have hcz8_0 : w6.cell? ⟨gb334, 0, none⟩ = some (.int .i64 0) := (blk_cell BK334.out 0).trans rfl; have hcz8_1 : w6.cell? ⟨gb334, 1, none⟩ = some (.int .i64 0) := (blk_cell BK334.out 1).trans rfl; have hcz8_2 : w6.cell? ⟨gb334, 2, none⟩ = some (.int .i64 0) := (blk_cell BK334.out 2).trans rfl; have hcz8_3 : w6.cell? ⟨gb334, 3, none⟩ = some (.int .i64 0) := (blk_cell BK334.out 3).trans rfl; have hcz8_4 : w6.cell? ⟨gb334, 4, none⟩ = some (.int .i64 0) := (blk_cell BK334.out 4).trans rfl; have hcz8_5 : w6.cell? ⟨gb334, 5, none⟩ = some (.int .i64 0) := (blk_cell BK334.out 5).trans rfl; have hcz8_6 : w6.cell? ⟨gb334, 6, none⟩ = some (.string (⟨#[]⟩ : ByteArray)) := (blk_cell BK334.out 6).trans rfl; have hfz8_0 := blk_frozen BK334.out 0; have hfz8_1 := blk_frozen BK334.out 1; have hfz8_2 := blk_frozen BK334.out 2; have hfz8_3 := blk_frozen BK334.out 3; have hfz8_4 := blk_frozen BK334.out 4; have hfz8_5 := blk_frozen BK334.out 5; have hfz8_6 := blk_frozen BK334.out 6))
 refine bodyPost_ret (results_cell_row rfl _ _ gb334 67 #[.int .i64 t339, .int .i64 t340, .int .i64 t341, .int .i64 t342, .int .i64 t343, .int .i64 t344, .string t345] (0, 0) _ rfl (by (with_reducible repeat (first | refine blk_drewN ?_ _ | refine blk_drew ?_ | refine blk_alloc ?_ _)); refine blk_put (cs := #[.int .i64 t339, .int .i64 t340, .int .i64 t341, .int .i64 t342, .int .i64 t343, .int .i64 t344, .string (⟨#[]⟩ : ByteArray)]) ?_ 6 _ rfl; (with_reducible repeat (first | refine blk_drewN ?_ _ | refine blk_drew ?_ | refine blk_alloc ?_ _)); refine blk_put (cs := #[.int .i64 t339, .int .i64 t340, .int .i64 t341, .int .i64 t342, .int .i64 t343, .int .i64 0, .string (⟨#[]⟩ : ByteArray)]) ?_ 5 _ rfl; (with_reducible repeat (first | refine blk_drewN ?_ _ | refine blk_drew ?_ | refine blk_alloc ?_ _)); refine blk_put (cs := #[.int .i64 t339, .int .i64 t340, .int .i64 t341, .int .i64 t342, .int .i64 0, .int .i64 0, .string (⟨#[]⟩ : ByteArray)]) ?_ 4 _ rfl; (with_reducible repeat (first | refine blk_drewN ?_ _ | refine blk_drew ?_ | refine blk_alloc ?_ _)); refine blk_put (cs := #[.int .i64 t339, .int .i64 t340, .int .i64 t341, .int .i64 0, .int .i64 0, .int .i64 0, .string (⟨#[]⟩ : ByteArray)]) ?_ 3 _ rfl; (with_reducible repeat (first | refine blk_drewN ?_ _ | refine blk_drew ?_ | refine blk_alloc ?_ _)); refine blk_put (cs := #[.int .i64 t339, .int .i64 t340, .int .i64 0, .int .i64 0, .int .i64 0, .int .i64 0, .string (⟨#[]⟩ : ByteArray)]) ?_ 2 _ rfl; (with_reducible repeat (first | refine blk_drewN ?_ _ | refine blk_drew ?_ | refine blk_alloc ?_ _)); refine blk_put (cs := #[.int .i64 t339, .int .i64 0, .int .i64 0, .int .i64 0, .int .i64 0, .int .i64 0, .string (⟨#[]⟩ : ByteArray)]) ?_ 1 _ rfl; (with_reducible repeat (first | refine blk_drewN ?_ _ | refine blk_drew ?_ | refine blk_alloc ?_ _)); refine blk_put (cs := #[.int .i64 0, .int .i64 0, .int .i64 0, .int .i64 0, .int .i64 0, .int .i64 0, .string (⟨#[]⟩ : ByteArray)]) ?_ 0 _ rfl; (with_reducible repeat (first | refine blk_drewN ?_ _ | refine blk_drew ?_ | refine blk_alloc ?_ _)); exact BK334.out) Try.underlying67 rfl (by kernel_rfl)) rfl ?_
 exact ⟨by first | rfl | (simp [errW_none, errW_some] <;> rfl) | (simp [*, errW_none, errW_some] <;> rfl), by repeat (first | (with_reducible first | exact HB.out | apply below_alloc | apply pw_below_drewN | apply below_drew1 | refine below_set ?_ (IsS124.ge HI338.out) | refine below_set ?_ GE334.out) | exact HB.out)⟩

/-! ### impl_askedBytes: function 93 -/
def impl_askedBytes.f (a0 : Int) (a1 : Int) (l2 : List Int) : Option (Int) := if (l2.length : Int) > 65536 then (some 2) else ((impl_isAddress.f a0).bind fun t348 => (if t348 = true then ((impl_isAddress.f a1).bind fun t349 => (if t349 = true then (some 0) else (some 4))) else (some 4)))
set_option maxHeartbeats 8000000 in
set_option maxRecDepth 100000 in
theorem impl_askedBytes.calls (a0 : Int) (a1 : Int) (A2 : Option Addr) (c2 : Nat) (l2 : List Int) (r : Int) (w : World) (hr2 : Kd.C (Kd.int .u8) w A2 l2.length l2) (hc2 : l2.length ≤ c2) (h : impl_askedBytes.f a0 a1 l2 = some r) :
  Calls Try.prog 93 #[.int .i64 a0, .int .i64 a1, .slice A2 l2.length c2] w fun e w' => e = .returned (.int .i64 r) ∧ Drawn0 w w' := by
 have HR2 := Aside0.mk hr2
 have HC2 := Aside0.mk hc2
 clear hr2 hc2
 have H : (if (l2.length : Int) > 65536 then (some 2) else ((impl_isAddress.f a0).bind fun t348 => (if t348 = true then ((impl_isAddress.f a1).bind fun t349 => (if t349 = true then (some 0) else (some 4))) else (some 4)))) = some r := h
 clear h
 by_cases c4 : (l2.length : Int) > 65536
 ·rw [if_pos c4] at H
  have c4b0 : decide (65536 < (l2.length : Int)) = true := decide_eq_true c4
  have c4b1 : decide (65536 < l2.length) = true := decide_eq_true (by omega)
  clear c4
  obtain rfl := Option.some.inj H
  go_enter Try.func93, Try.ntmps93
  go_wp2
  go_ret
  exact ⟨by first | rfl | (simp; done) | (simp [*]; done), by repeat (first | exact Drawn0.refl _ | apply Drawn0.step)⟩
 ·rw [if_neg c4] at H
  have c4b0 : decide (65536 < (l2.length : Int)) = false := decide_eq_false c4
  have c4b1 : decide (65536 < l2.length) = false := decide_eq_false (by omega)
  clear c4
  replace H := Option.bind_eq_some_iff.mp H
  obtain ⟨t348, A50, H⟩ := H
  replace H : (if t348 = true then ((impl_isAddress.f a1).bind fun t349 => (if t349 = true then (some 0) else (some 4))) else (some 4)) = some r := H
  have A5 := Aside0.mk A50
  clear A50
  by_cases c6 : t348 = true
  ·subst c6
   have H1 : ((impl_isAddress.f a1).bind fun t349 => (if t349 = true then (some 0) else (some 4))) = some r := by rw [if_pos rfl] at H; exact H
   clear H
   have H := H1
   clear H1
   replace H := Option.bind_eq_some_iff.mp H
   obtain ⟨t349, A70, H⟩ := H
   replace H : (if t349 = true then (some 0) else (some 4)) = some r := H
   have A7 := Aside0.mk A70
   clear A70
   by_cases c8 : t349 = true
   ·subst c8
    have H1 : (some 0) = some r := by rw [if_pos rfl] at H; exact H
    clear H
    have H := H1
    clear H1
    obtain rfl := Option.some.inj H
    go_enter Try.func93, Try.ntmps93
    go_wp2_with (first | ((with_reducible refine gate_callee (f := 73) rfl ?_); refine goesL_ (some 13) rfl rfl Try.func73 (by kernel_rfl) rfl #[.int .i64 a0] rfl (by (try simp only [List.map_toArray, List.map_cons, List.map_nil]); first | done | rfl | (simp only [List.length_drop, List.length_take]; rfl)) ?_; (with_reducible refine (impl_isAddress.calls a0 true _ A5.out).mono ?_); rintro e w' ⟨rfl, ⟨nd, rfl⟩⟩; refine ⟨_, rfl, ?_⟩) | (go_at_call 73; (with_reducible refine (impl_isAddress.calls a1 true _ A7.out).mono ?_); rintro e w' ⟨rfl, ⟨nd, rfl⟩⟩))
    go_ret
    exact ⟨by first | rfl | (simp; done) | (simp [*]; done), by repeat (first | exact Drawn0.refl _ | apply Drawn0.step)⟩
   ·replace c8 := Bool.eq_false_iff.mpr c8
    subst c8
    have H1 : (some 4) = some r := by rw [if_neg (show ¬ (false = true) by decide)] at H; exact H
    clear H
    have H := H1
    clear H1
    obtain rfl := Option.some.inj H
    go_enter Try.func93, Try.ntmps93
    go_wp2_with (first | ((with_reducible refine gate_callee (f := 73) rfl ?_); refine goesL_ (some 13) rfl rfl Try.func73 (by kernel_rfl) rfl #[.int .i64 a0] rfl (by (try simp only [List.map_toArray, List.map_cons, List.map_nil]); first | done | rfl | (simp only [List.length_drop, List.length_take]; rfl)) ?_; (with_reducible refine (impl_isAddress.calls a0 true _ A5.out).mono ?_); rintro e w' ⟨rfl, ⟨nd, rfl⟩⟩; refine ⟨_, rfl, ?_⟩) | (go_at_call 73; (with_reducible refine (impl_isAddress.calls a1 false _ A7.out).mono ?_); rintro e w' ⟨rfl, ⟨nd, rfl⟩⟩))
    go_ret
    exact ⟨by first | rfl | (simp; done) | (simp [*]; done), by repeat (first | exact Drawn0.refl _ | apply Drawn0.step)⟩
  ·replace c6 := Bool.eq_false_iff.mpr c6
   subst c6
   have H1 : (some 4) = some r := by rw [if_neg (show ¬ (false = true) by decide)] at H; exact H
   clear H
   have H := H1
   clear H1
   obtain rfl := Option.some.inj H
   go_enter Try.func93, Try.ntmps93
   go_wp2_with (first | ((with_reducible refine gate_callee (f := 73) rfl ?_); refine goesL_ (some 13) rfl rfl Try.func73 (by kernel_rfl) rfl #[.int .i64 a0] rfl (by (try simp only [List.map_toArray, List.map_cons, List.map_nil]); first | done | rfl | (simp only [List.length_drop, List.length_take]; rfl)) ?_; (with_reducible refine (impl_isAddress.calls a0 false _ A5.out).mono ?_); rintro e w' ⟨rfl, ⟨nd, rfl⟩⟩; refine ⟨_, rfl, ?_⟩))
   go_ret
   exact ⟨by first | rfl | (simp; done) | (simp [*]; done), by repeat (first | exact Drawn0.refl _ | apply Drawn0.step)⟩

/-! ### impl_num: function 107 -/
def impl_num.l0 : Nat → Int → List Int → Int → Int → Option (Int)
 | 0, _, _, _, _ => none
 | k + 1, x3, x6, x7, x8 => if x8 < x7 then (if 0 ≤ x8 then (if x8 < (x6.length : Int) then (impl_num.l0 k (wrap64 ((wrap64 (x3 * 256)) + (wrap64 (rd x6 x8)))) x6 x7 (wrap64 (x8 + 1))) else (none)) else (none)) else (some x3)
def impl_num.f (k : Nat) (l0 : List Int) : Option (Int) := impl_num.l0 k 0 l0 (l0.length : Int) 0
set_option maxHeartbeats 8000000 in
set_option maxRecDepth 100000 in
theorem impl_num.calls (k : Nat) (A0 : Option Addr) (c0 : Nat) (l0 : List Int) (r : Int) (w : World) (hr0 : Kd.C (Kd.int .u8) w A0 l0.length l0) (hc0 : l0.length ≤ c0) (h : impl_num.f k l0 = some r) :
  Calls Try.prog 107 #[.slice A0 l0.length c0] w fun e w' => e = .returned (.int .i64 r) ∧ Drawn0 w w' := by
 have HR0 := Aside0.mk hr0
 have HC0 := Aside0.mk hc0
 clear hr0 hc0
 have H : (impl_num.l0 k 0 l0 (l0.length : Int) 0) = some r := h
 clear h
 have H' := Aside0.mk H
 clear H
 go_enter Try.func107, Try.ntmps107
 go_wp2
 go_loopg [3, 8] k (fun kq v3 v8 w' => ∃ (x3_1 : Int) (x8_1 : Int), v3 = .int .i64 x3_1 ∧ v8 = .int .i64 x8_1 ∧ Aside0 (impl_num.l0 kq x3_1 l0 (l0.length : Int) x8_1 = some r) ∧ Aside0 (kq ≤ k) ∧ Drawn0 w w')
 case atStart => exact ⟨(0), (0), (by first | rfl | (simp; done) | (simp [*]; done)), (by first | rfl | (simp; done) | (simp [*]; done)), H', ⟨Nat.le_refl _⟩, by repeat (first | exact Drawn0.refl _ | apply Drawn0.step)⟩
 case round =>
  clear H'
  (try clear c1)
  obtain ⟨x3_1, x8_1, rfl, rfl, HA, HK1, ⟨m1, rfl⟩⟩ := hrel
  cases gk with
  | zero => exact absurd HA.out (by simp [impl_num.l0])
  | succ k1 =>
   have H := HA.out
   clear HA
   simp only [impl_num.l0] at H
   by_cases c2 : x8_1 < (l0.length : Int)
   ·rw [if_pos c2] at H
    have c2b0 : decide (x8_1 < (l0.length : Int)) = true := decide_eq_true c2
    clear c2
    by_cases c3 : 0 ≤ x8_1
    ·rw [if_pos c3] at H
     have c3b0 : decide (0 ≤ x8_1) = true := decide_eq_true c3
     clear c3
     by_cases c4 : x8_1 < (l0.length : Int)
     ·rw [if_pos c4] at H
      have c4b0 : decide (x8_1 < (l0.length : Int)) = true := decide_eq_true c4
      clear c4
      have H' := Aside0.mk H
      clear H
      have p350 : 0 ≤ (x8_1 : Int) := of_decide_eq_true (by first | (with_reducible assumption) | assumption)
      have q350 : x8_1 < (l0.length : Int) := of_decide_eq_true (by first | (with_reducible assumption) | assumption)
      obtain ⟨ad350, e350, hx350_0⟩ := Kd.at_int HR0.out x8_1 p350 q350
      cases e350
      replace p350 := eq_true p350
      replace q350 := eq_true q350
      go_wp2
      go_roundg k1
      case measure => have := HK1.out; omega
      case rel => exact ⟨(wrap64 ((wrap64 (x3_1 * 256)) + (wrap64 (rd l0 x8_1)))), (wrap64 (x8_1 + 1)), (by first | rfl | (simp; done) | (simp [*]; done)), (by first | rfl | (simp; done) | (simp [*]; done)), H', ⟨by have := HK1.out; omega⟩, by repeat (first | exact Drawn0.refl _ | apply Drawn0.step)⟩
     ·rw [if_neg c4] at H
      exact absurd H (by simp)
    ·rw [if_neg c3] at H
     exact absurd H (by simp)
   ·rw [if_neg c2] at H
    have c2b0 : decide (x8_1 < (l0.length : Int)) = false := decide_eq_false c2
    clear c2
    obtain rfl := Option.some.inj H
    go_wp2
    go_ret
    exact ⟨by first | rfl | (simp; done) | (simp [*]; done), by repeat (first | exact Drawn0.refl _ | apply Drawn0.step)⟩

end Go.Proofs.Ythfhflgiblmooaa.PFs
