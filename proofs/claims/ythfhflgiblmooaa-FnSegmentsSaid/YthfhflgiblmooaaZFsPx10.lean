-- Printed by this session's own program (wip/tools/myprint.py over the kit's print, out of the translation). Nothing here is trusted: Lean checks it.
import Derived.Test.YthfhflgiblmooaaZFsPx0
import Derived.Test.YthfhflgiblmooaaZFsPx5
namespace Go.Proofs.Ythfhflgiblmooaa.PFs
open Go.RowKit Go.Proofs.YthfhflgiblmooaaW.PrintWords Go.Proofs.YthfhflgiblmooaaW.PrintLast Go.Proofs.YthfhflgiblmooaaW.PrintMore
attribute [local go_sem] w64_u8 w64_u8_4 max2_int min2_int max_two min_two max_three min_three max_four min_four   -- for this text's walks alone
set_option linter.unusedVariables false
set_option linter.unusedSimpArgs false

/-! ### impl_segmentBytes: function 87 -/
def impl_segmentBytes.f (k : Nat) (a0 : Int) (a1 : Int) (a2_0 : Int) (a2_1 : Int) (a2_2 : Int) (a2_3 : Int) (a2_4 : Int) (a2_5 : Int) (a2_6 : ByteArray) : Option (List Int) := (impl_be.f k a2_0 2).bind fun t242 => ((impl_be.f k a2_1 2).bind fun t245 => ((impl_be.f k a2_2 4).bind fun t248 => ((impl_be.f k a2_3 4).bind fun t251 => ((impl_be.f k a2_5 2).bind fun t257 => (if 4 ≤ 281474976710656 then (if a2_6.size ≤ 140737488355328 then ((slices_Concat_byte_byte.f k (([t242, t245, t248, t251, (([80, (a2_4) % 256] : List Int)), t257, (List.replicate 4 0), (bytesOf a2_6)] : List (List Int)))).bind fun t269 => (if 16 ≤ (t269.length : Int) then ((impl_withEnds.f k a0 a1 6 t269).bind fun t277 => ((impl_be.f k t277 2).bind fun t278 => (if (16 : Int).toNat + t278.length ≤ t269.length then (some (t269.take (16 : Int).toNat ++ t278 ++ t269.drop ((16 : Int).toNat + t278.length))) else (none)))) else (none))) else (none)) else (none))))))
def impl_segmentBytes.T1 : Bool × List (List Nat × List Nat) := (true, [([], []), ([0], [0]), ([1], [1]), ([], []), ([3], [3]), ([4, 2], [4]), ([], []), ([6], [6]), ([7, 5], [7]), ([], []), ([9], [9]), ([10, 8], [10]), ([], []), ([12], [12]), ([13], [13]), ([14], [14]), ([], []), ([16], [16]), ([17, 11], [17]), ([], []), ([], []), ([20], [20]), ([21], [21]), ([2, 5, 8, 11, 15, 18, 19, 22], [2, 5, 8, 11, 15, 18, 19, 22]), ([23, 18], [23]), ([24, 24, 0, 1, 2, 3, 4, 5, 6, 7, 8, 9, 10, 11, 12, 13, 14, 15, 16, 17, 18, 19, 20, 21, 22, 23, 24], [24])])
def impl_segmentBytes.B1 : List Nat := [0, 1, 3, 0, 8, 31, 0, 64, 255, 0, 512, 2047, 0, 4096, 12288, 28672, 0, 65536, 200703, 0, 0, 1048576, 3145728, 8388607, 16777215, 33554431]
theorem impl_segmentBytes.tab1 : rtab .any (opsOf Try.f87 1) = impl_segmentBytes.T1 := by kernel_rfl
theorem impl_segmentBytes.bits1 : waitsOk impl_segmentBytes.T1.2 impl_segmentBytes.B1 = true := by kernel_rfl
def impl_segmentBytes.T2 : Bool × List (List Nat × List Nat) := (true, [([], []), ([0], [0]), ([], []), ([], []), ([], []), ([2, 3, 4], [2, 3, 4]), ([5, 5], [5]), ([1, 6, 6], [1, 6])])
def impl_segmentBytes.B2 : List Nat := [0, 1, 0, 0, 0, 28, 60, 127]
theorem impl_segmentBytes.tab2 : rtab .any (opsOf Try.f87 2) = impl_segmentBytes.T2 := by kernel_rfl
theorem impl_segmentBytes.bits2 : waitsOk impl_segmentBytes.T2.2 impl_segmentBytes.B2 = true := by kernel_rfl
set_option maxHeartbeats 8000000 in
set_option maxRecDepth 100000 in
theorem impl_segmentBytes.calls (k : Nat) (a0 : Int) (a1 : Int) (a2_0 : Int) (a2_1 : Int) (a2_2 : Int) (a2_3 : Int) (a2_4 : Int) (a2_5 : Int) (a2_6 : ByteArray) (r : List Int) (w : World) (h : impl_segmentBytes.f k a0 a1 a2_0 a2_1 a2_2 a2_3 a2_4 a2_5 a2_6 = some r) :
  Calls Try.prog 87 #[.int .i64 a0, .int .i64 a1, .agg #[.int .i64 a2_0, .int .i64 a2_1, .int .i64 a2_2, .int .i64 a2_3, .int .i64 a2_4, .int .i64 a2_5, .string a2_6]] w fun e w' => ∃ v0_ : Value, e = .returned (v0_) ∧ Kd.R (Kd.int .u8) 5 w' w.heap.size (fun _ => True) v0_ r ∧ Below w.heap.size w w' := by
 have hu67 := Try.underlying67
 have HB := Aside0.mk (Below.refl w.heap.size w)
 have H : ((impl_be.f k a2_0 2).bind fun t242 => ((impl_be.f k a2_1 2).bind fun t245 => ((impl_be.f k a2_2 4).bind fun t248 => ((impl_be.f k a2_3 4).bind fun t251 => ((impl_be.f k a2_5 2).bind fun t257 => (if 4 ≤ 281474976710656 then (if a2_6.size ≤ 140737488355328 then ((slices_Concat_byte_byte.f k (([t242, t245, t248, t251, (([80, (a2_4) % 256] : List Int)), t257, (List.replicate 4 0), (bytesOf a2_6)] : List (List Int)))).bind fun t269 => (if 16 ≤ (t269.length : Int) then ((impl_withEnds.f k a0 a1 6 t269).bind fun t277 => ((impl_be.f k t277 2).bind fun t278 => (if (16 : Int).toNat + t278.length ≤ t269.length then (some (t269.take (16 : Int).toNat ++ t278 ++ t269.drop ((16 : Int).toNat + t278.length))) else (none)))) else (none))) else (none)) else (none))))))) = some r := h
 clear h
 replace H := Option.bind_eq_some_iff.mp H
 obtain ⟨t242, A40, H⟩ := H
 replace H : ((impl_be.f k a2_1 2).bind fun t245 => ((impl_be.f k a2_2 4).bind fun t248 => ((impl_be.f k a2_3 4).bind fun t251 => ((impl_be.f k a2_5 2).bind fun t257 => (if 4 ≤ 281474976710656 then (if a2_6.size ≤ 140737488355328 then ((slices_Concat_byte_byte.f k (([t242, t245, t248, t251, (([80, (a2_4) % 256] : List Int)), t257, (List.replicate 4 0), (bytesOf a2_6)] : List (List Int)))).bind fun t269 => (if 16 ≤ (t269.length : Int) then ((impl_withEnds.f k a0 a1 6 t269).bind fun t277 => ((impl_be.f k t277 2).bind fun t278 => (if (16 : Int).toNat + t278.length ≤ t269.length then (some (t269.take (16 : Int).toNat ++ t278 ++ t269.drop ((16 : Int).toNat + t278.length))) else (none)))) else (none))) else (none)) else (none)))))) = some r := H
 have A4 := Aside0.mk A40
 clear A40
 replace H := Option.bind_eq_some_iff.mp H
 obtain ⟨t245, A50, H⟩ := H
 replace H : ((impl_be.f k a2_2 4).bind fun t248 => ((impl_be.f k a2_3 4).bind fun t251 => ((impl_be.f k a2_5 2).bind fun t257 => (if 4 ≤ 281474976710656 then (if a2_6.size ≤ 140737488355328 then ((slices_Concat_byte_byte.f k (([t242, t245, t248, t251, (([80, (a2_4) % 256] : List Int)), t257, (List.replicate 4 0), (bytesOf a2_6)] : List (List Int)))).bind fun t269 => (if 16 ≤ (t269.length : Int) then ((impl_withEnds.f k a0 a1 6 t269).bind fun t277 => ((impl_be.f k t277 2).bind fun t278 => (if (16 : Int).toNat + t278.length ≤ t269.length then (some (t269.take (16 : Int).toNat ++ t278 ++ t269.drop ((16 : Int).toNat + t278.length))) else (none)))) else (none))) else (none)) else (none))))) = some r := H
 have A5 := Aside0.mk A50
 clear A50
 replace H := Option.bind_eq_some_iff.mp H
 obtain ⟨t248, A60, H⟩ := H
 replace H : ((impl_be.f k a2_3 4).bind fun t251 => ((impl_be.f k a2_5 2).bind fun t257 => (if 4 ≤ 281474976710656 then (if a2_6.size ≤ 140737488355328 then ((slices_Concat_byte_byte.f k (([t242, t245, t248, t251, (([80, (a2_4) % 256] : List Int)), t257, (List.replicate 4 0), (bytesOf a2_6)] : List (List Int)))).bind fun t269 => (if 16 ≤ (t269.length : Int) then ((impl_withEnds.f k a0 a1 6 t269).bind fun t277 => ((impl_be.f k t277 2).bind fun t278 => (if (16 : Int).toNat + t278.length ≤ t269.length then (some (t269.take (16 : Int).toNat ++ t278 ++ t269.drop ((16 : Int).toNat + t278.length))) else (none)))) else (none))) else (none)) else (none)))) = some r := H
 have A6 := Aside0.mk A60
 clear A60
 replace H := Option.bind_eq_some_iff.mp H
 obtain ⟨t251, A70, H⟩ := H
 replace H : ((impl_be.f k a2_5 2).bind fun t257 => (if 4 ≤ 281474976710656 then (if a2_6.size ≤ 140737488355328 then ((slices_Concat_byte_byte.f k (([t242, t245, t248, t251, (([80, (a2_4) % 256] : List Int)), t257, (List.replicate 4 0), (bytesOf a2_6)] : List (List Int)))).bind fun t269 => (if 16 ≤ (t269.length : Int) then ((impl_withEnds.f k a0 a1 6 t269).bind fun t277 => ((impl_be.f k t277 2).bind fun t278 => (if (16 : Int).toNat + t278.length ≤ t269.length then (some (t269.take (16 : Int).toNat ++ t278 ++ t269.drop ((16 : Int).toNat + t278.length))) else (none)))) else (none))) else (none)) else (none))) = some r := H
 have A7 := Aside0.mk A70
 clear A70
 obtain ⟨y254, hy254⟩ : ∃ y_ : List Int, y_ = (([80, (a2_4) % 256] : List Int)) := ⟨_, rfl⟩
 replace H : ((impl_be.f k a2_5 2).bind fun t257 => (if 4 ≤ 281474976710656 then (if a2_6.size ≤ 140737488355328 then ((slices_Concat_byte_byte.f k (([t242, t245, t248, t251, y254, t257, (List.replicate 4 0), (bytesOf a2_6)] : List (List Int)))).bind fun t269 => (if 16 ≤ (t269.length : Int) then ((impl_withEnds.f k a0 a1 6 t269).bind fun t277 => ((impl_be.f k t277 2).bind fun t278 => (if (16 : Int).toNat + t278.length ≤ t269.length then (some (t269.take (16 : Int).toNat ++ t278 ++ t269.drop ((16 : Int).toNat + t278.length))) else (none)))) else (none))) else (none)) else (none))) = some r := by first | (rw [hy254]; with_reducible exact H) | (have H2_ := (Option.bind_some _ _).symm.trans H; rw [hy254]; with_reducible exact H2_) | (have H2_ := (Option.bind_some _ _).symm.trans H; with_reducible exact H2_) | with_reducible exact H | (rw [hy254]; exact H) | exact H
 have Ny254 := Aside0.mk hy254
 clear hy254
 replace H := Option.bind_eq_some_iff.mp H
 obtain ⟨t257, A80, H⟩ := H
 replace H : (if 4 ≤ 281474976710656 then (if a2_6.size ≤ 140737488355328 then ((slices_Concat_byte_byte.f k (([t242, t245, t248, t251, y254, t257, (List.replicate 4 0), (bytesOf a2_6)] : List (List Int)))).bind fun t269 => (if 16 ≤ (t269.length : Int) then ((impl_withEnds.f k a0 a1 6 t269).bind fun t277 => ((impl_be.f k t277 2).bind fun t278 => (if (16 : Int).toNat + t278.length ≤ t269.length then (some (t269.take (16 : Int).toNat ++ t278 ++ t269.drop ((16 : Int).toNat + t278.length))) else (none)))) else (none))) else (none)) else (none)) = some r := H
 have A8 := Aside0.mk A80
 clear A80
 by_cases c9 : 4 ≤ 281474976710656
 ·rw [if_pos c9] at H
  have c9b0 := eq_true c9
  have c9b1 : decide (4 ≤ 281474976710656) = true := decide_eq_true c9
  clear c9
  obtain ⟨y260, hy260⟩ : ∃ y_ : List Int, y_ = (List.replicate 4 0) := ⟨_, rfl⟩
  replace H : (if a2_6.size ≤ 140737488355328 then ((slices_Concat_byte_byte.f k (([t242, t245, t248, t251, y254, t257, y260, (bytesOf a2_6)] : List (List Int)))).bind fun t269 => (if 16 ≤ (t269.length : Int) then ((impl_withEnds.f k a0 a1 6 t269).bind fun t277 => ((impl_be.f k t277 2).bind fun t278 => (if (16 : Int).toNat + t278.length ≤ t269.length then (some (t269.take (16 : Int).toNat ++ t278 ++ t269.drop ((16 : Int).toNat + t278.length))) else (none)))) else (none))) else (none)) = some r := by first | (rw [hy260]; with_reducible exact H) | (have H2_ := (Option.bind_some _ _).symm.trans H; rw [hy260]; with_reducible exact H2_) | (have H2_ := (Option.bind_some _ _).symm.trans H; with_reducible exact H2_) | with_reducible exact H | (rw [hy260]; exact H) | exact H
  have Ny260 := Aside0.mk hy260
  clear hy260
  by_cases c10 : a2_6.size ≤ 140737488355328
  ·rw [if_pos c10] at H
   have c10b0 := eq_true c10
   have c10b1 : decide (a2_6.size ≤ 140737488355328) = true := decide_eq_true c10
   clear c10
   obtain ⟨y263, hy263⟩ : ∃ y_ : List Int, y_ = (bytesOf a2_6) := ⟨_, rfl⟩
   replace H : ((slices_Concat_byte_byte.f k (([t242, t245, t248, t251, y254, t257, y260, y263] : List (List Int)))).bind fun t269 => (if 16 ≤ (t269.length : Int) then ((impl_withEnds.f k a0 a1 6 t269).bind fun t277 => ((impl_be.f k t277 2).bind fun t278 => (if (16 : Int).toNat + t278.length ≤ t269.length then (some (t269.take (16 : Int).toNat ++ t278 ++ t269.drop ((16 : Int).toNat + t278.length))) else (none)))) else (none))) = some r := by first | (rw [hy263]; with_reducible exact H) | (have H2_ := (Option.bind_some _ _).symm.trans H; rw [hy263]; with_reducible exact H2_) | (have H2_ := (Option.bind_some _ _).symm.trans H; with_reducible exact H2_) | with_reducible exact H | (rw [hy263]; exact H) | exact H
   have Ny263 := Aside0.mk hy263
   clear hy263
   obtain ⟨y266, hy266⟩ : ∃ y_ : List (List Int), y_ = (([t242, t245, t248, t251, y254, t257, y260, y263] : List (List Int))) := ⟨_, rfl⟩
   replace H : ((slices_Concat_byte_byte.f k y266).bind fun t269 => (if 16 ≤ (t269.length : Int) then ((impl_withEnds.f k a0 a1 6 t269).bind fun t277 => ((impl_be.f k t277 2).bind fun t278 => (if (16 : Int).toNat + t278.length ≤ t269.length then (some (t269.take (16 : Int).toNat ++ t278 ++ t269.drop ((16 : Int).toNat + t278.length))) else (none)))) else (none))) = some r := by first | (rw [hy266]; with_reducible exact H) | (have H2_ := (Option.bind_some _ _).symm.trans H; rw [hy266]; with_reducible exact H2_) | (have H2_ := (Option.bind_some _ _).symm.trans H; with_reducible exact H2_) | with_reducible exact H | (rw [hy266]; exact H) | exact H
   have Ny266 := Aside0.mk hy266
   clear hy266
   replace H := Option.bind_eq_some_iff.mp H
   obtain ⟨t269, A110, H⟩ := H
   replace H : (if 16 ≤ (t269.length : Int) then ((impl_withEnds.f k a0 a1 6 t269).bind fun t277 => ((impl_be.f k t277 2).bind fun t278 => (if (16 : Int).toNat + t278.length ≤ t269.length then (some (t269.take (16 : Int).toNat ++ t278 ++ t269.drop ((16 : Int).toNat + t278.length))) else (none)))) else (none)) = some r := H
   have A11 := Aside0.mk A110
   clear A110
   by_cases c12 : 16 ≤ (t269.length : Int)
   ·rw [if_pos c12] at H
    have c12b0 := eq_true c12
    have c12b1 : decide (16 ≤ (t269.length : Int)) = true := decide_eq_true c12
    clear c12
    obtain ⟨y272, hy272⟩ : ∃ y_ : List Int, y_ = (t269.drop 16) := ⟨_, rfl⟩
    replace H : ((impl_withEnds.f k a0 a1 6 t269).bind fun t277 => ((impl_be.f k t277 2).bind fun t278 => (if (16 : Int).toNat + t278.length ≤ t269.length then (some (t269.take (16 : Int).toNat ++ t278 ++ t269.drop ((16 : Int).toNat + t278.length))) else (none)))) = some r := by first | (rw [hy272]; with_reducible exact H) | (have H2_ := (Option.bind_some _ _).symm.trans H; rw [hy272]; with_reducible exact H2_) | (have H2_ := (Option.bind_some _ _).symm.trans H; with_reducible exact H2_) | with_reducible exact H | (rw [hy272]; exact H) | exact H
    have Ny272 := Aside0.mk hy272
    clear hy272
    replace H := Option.bind_eq_some_iff.mp H
    obtain ⟨t277, A130, H⟩ := H
    replace H : ((impl_be.f k t277 2).bind fun t278 => (if (16 : Int).toNat + t278.length ≤ t269.length then (some (t269.take (16 : Int).toNat ++ t278 ++ t269.drop ((16 : Int).toNat + t278.length))) else (none))) = some r := H
    have A13 := Aside0.mk A130
    clear A130
    replace H := Option.bind_eq_some_iff.mp H
    obtain ⟨t278, A140, H⟩ := H
    replace H : (if (16 : Int).toNat + t278.length ≤ t269.length then (some (t269.take (16 : Int).toNat ++ t278 ++ t269.drop ((16 : Int).toNat + t278.length))) else (none)) = some r := H
    have A14 := Aside0.mk A140
    clear A140
    by_cases c15 : (16 : Int).toNat + t278.length ≤ t269.length
    ·rw [if_pos c15] at H
     have LMc15 := Aside0.mk c15
     clear c15
     obtain ⟨y281, hy281⟩ : ∃ y_ : List Int, y_ = (t269.take (16 : Int).toNat ++ t278 ++ t269.drop ((16 : Int).toNat + t278.length)) := ⟨_, rfl⟩
     replace H : (some y281) = some r := by first | (rw [hy281]; with_reducible exact H) | (have H2_ := (Option.bind_some _ _).symm.trans H; rw [hy281]; with_reducible exact H2_) | (have H2_ := (Option.bind_some _ _).symm.trans H; with_reducible exact H2_) | with_reducible exact H | (rw [hy281]; exact H) | exact H
     have Ny281 := Aside0.mk hy281
     clear hy281
     obtain rfl := Option.some.inj H
     go_enter Try.func87, Try.ntmps87
     try go_wp2_with (first | ((with_reducible refine gate_dst (N := 5) rfl ?_); refine box_event ?hg (N := 5) ?hd (cs := #[.int .i64 a2_0, .int .i64 a2_1, .int .i64 a2_2, .int .i64 a2_3, .int .i64 a2_4, .int .i64 a2_5, .string a2_6]) (t := 67) ?hr ?_; (case hd => rfl); (case hg => rfl); (case hr => first | (go_simp; done) | (go_simp; rfl)); intro gb241 hg w16 hbox hb; have n0_ := Aside0.mk (below_step (by repeat (first | (with_reducible first | exact HB.out | apply below_alloc | apply pw_below_drewN | apply below_drew1) | exact HB.out)) hb); have n1_ := Aside0.mk (hbox); have n2_ := Aside0.mk ((by rw [hg]; exact (below_size (by repeat (first | (with_reducible first | exact HB.out | apply below_alloc | apply pw_below_drewN | apply below_drew1) | exact HB.out))) : w.heap.size ≤ gb241)); have n3_ := Aside0.mk ((by rw [hg]; exact (below_size (by repeat (first | (with_reducible first | exact HB.out | apply below_alloc | apply pw_below_drewN | apply below_drew1) | exact HB.out))) : w.heap.size ≤ gb241)); clear HB; have HB := n0_; have BK241 := n1_; have GW241 := n2_; have GE241 := n3_; clear n0_ n1_ n2_ n3_; clear hb hbox hg))
     have n0_ := Aside0.mk (blk_drew BK241.out)
     have n1_ := Aside0.mk (below_drew1 HB.out)
     clear BK241
     clear HB
     have BK241 := n0_
     have HB := n1_
     clear n0_ n1_
     refine start_ (n := 26) (S := fun w' => True) (ds := []) #[false, false, false, false, false, false, false, false, false, false, false, false, false, false, false, false, false, false, false, false, false, false, false, false, false, false] (by kernel_rfl) rfl rfl trivial (fun hHeld => ?_); refine with_tabW impl_segmentBytes.tab1 impl_segmentBytes.bits1 (fun HT_ HW_ => ?_)
     generalize w16.drew = w17 at BK241 HB hHeld ⊢
     refine pure_ (i := 0) (N := some 8) (v := ?_) (a' := ?_) #[true, false, false, false, false, false, false, false, false, false, false, false, false, false, false, false, false, false, false, false, false, false, false, false, false, false] rfl rfl (any_of HT_.out (by kernel_rfl)) (fun _ _ _ h => h) (Or.inl ⟨by rfl, ?_⟩) ?_ ?_
     rotate_left
     ·intro w'
      go_simp
      with_reducible rfl
     rotate_left
     ·simp only [Act.put, List.setIfInBounds_toArray, List.set_cons_zero, List.set_cons_succ, i64_w, i32_w]
      rfl
     refine pure_ (i := 3) (N := some 11) (v := ?_) (a' := ?_) #[true, false, false, true, false, false, false, false, false, false, false, false, false, false, false, false, false, false, false, false, false, false, false, false, false, false] rfl rfl (any_of HT_.out (by kernel_rfl)) (fun _ _ _ h => h) (Or.inl ⟨by rfl, ?_⟩) ?_ ?_
     rotate_left
     ·intro w'
      go_simp
      with_reducible rfl
     rotate_left
     ·simp only [Act.put, List.setIfInBounds_toArray, List.set_cons_zero, List.set_cons_succ, i64_w, i32_w]
      rfl
     refine pure_ (i := 6) (N := some 14) (v := ?_) (a' := ?_) #[true, false, false, true, false, false, true, false, false, false, false, false, false, false, false, false, false, false, false, false, false, false, false, false, false, false] rfl rfl (any_of HT_.out (by kernel_rfl)) (fun _ _ _ h => h) (Or.inl ⟨by rfl, ?_⟩) ?_ ?_
     rotate_left
     ·intro w'
      go_simp
      with_reducible rfl
     rotate_left
     ·simp only [Act.put, List.setIfInBounds_toArray, List.set_cons_zero, List.set_cons_succ, i64_w, i32_w]
      rfl
     refine pure_ (i := 9) (N := some 17) (v := ?_) (a' := ?_) #[true, false, false, true, false, false, true, false, false, true, false, false, false, false, false, false, false, false, false, false, false, false, false, false, false, false] rfl rfl (any_of HT_.out (by kernel_rfl)) (fun _ _ _ h => h) (Or.inl ⟨by rfl, ?_⟩) ?_ ?_
     rotate_left
     ·intro w'
      go_simp
      with_reducible rfl
     rotate_left
     ·simp only [Act.put, List.setIfInBounds_toArray, List.set_cons_zero, List.set_cons_succ, i64_w, i32_w]
      rfl
     refine pure_ (i := 12) (N := some 20) (v := ?_) (a' := ?_) #[true, false, false, true, false, false, true, false, false, true, false, false, true, false, false, false, false, false, false, false, false, false, false, false, false, false] rfl rfl (any_of HT_.out (by kernel_rfl)) (fun _ _ _ h => h) (Or.inl ⟨by rfl, ?_⟩) ?_ ?_
     rotate_left
     ·intro w'
      go_simp
      with_reducible rfl
     rotate_left
     ·simp only [Act.put, List.setIfInBounds_toArray, List.set_cons_zero, List.set_cons_succ, i64_w, i32_w]
      rfl
     refine pure_ (i := 16) (N := some 24) (v := ?_) (a' := ?_) #[true, false, false, true, false, false, true, false, false, true, false, false, true, false, false, false, true, false, false, false, false, false, false, false, false, false] rfl rfl (any_of HT_.out (by kernel_rfl)) (fun _ _ _ h => h) (Or.inl ⟨by rfl, ?_⟩) ?_ ?_
     rotate_left
     ·intro w'
      go_simp
      with_reducible rfl
     rotate_left
     ·simp only [Act.put, List.setIfInBounds_toArray, List.set_cons_zero, List.set_cons_succ, i64_w, i32_w]
      rfl
     refine pure_ (i := 20) (N := some 28) (v := ?_) (a' := ?_) #[true, false, false, true, false, false, true, false, false, true, false, false, true, false, false, false, true, false, false, false, true, false, false, false, false, false] rfl rfl (any_of HT_.out (by kernel_rfl)) (fun _ _ _ h => h) (Or.inl ⟨by rfl, ?_⟩) ?_ ?_
     rotate_left
     ·intro w'
      go_simp
      with_reducible rfl
     rotate_left
     ·simp only [Act.put, List.setIfInBounds_toArray, List.set_cons_zero, List.set_cons_succ, i64_w, i32_w]
      rfl
     refine inv_at [1, 2, 4, 5, 7, 8, 10, 11, 13, 14, 15, 17, 18, 19, 21, 22, 23, 24, 25] (fun a0_ b a w' => ∃ (v243 : Value) (v246 : Value) (v249 : Value) (v252 : Value) (v255 : Value) (v258 : Value) (v261 : Value) (v264 : Value) (v267 : Value) (v270 : Value) (m25_ : Value), a = putSel a0_ b [(1, 9, .int .i64 a2_0), (2, 10, v243), (4, 12, .int .i64 a2_1), (5, 13, v246), (7, 15, .int .i64 a2_2), (8, 16, v249), (10, 18, .int .i64 a2_3), (11, 19, v252), (13, 21, .int .i64 a2_4), (14, 22, .int .u8 ((a2_4) % 256)), (15, 23, v255), (17, 25, .int .i64 a2_5), (18, 26, v258), (19, 27, v261), (21, 29, .string a2_6), (22, 30, v264), (23, 31, v267), (24, 32, v270), (25, 7, m25_)] ∧ (w'.heap[gb241]? = some (.cells #[.int .i64 a2_0, .int .i64 a2_1, .int .i64 a2_2, .int .i64 a2_3, .int .i64 a2_4, .int .i64 a2_5, .string a2_6] 67 (0, 0))) ∧ (Below w.heap.size w w') ∧ (b 2 = true → b 23 = false → Kd.R (Kd.int .u8) 5 w' w.heap.size (fun _ => True) v243 t242) ∧ (b 5 = true → b 23 = false → Kd.R (Kd.int .u8) 5 w' w.heap.size (fun _ => True) v246 t245) ∧ (b 8 = true → b 23 = false → Kd.R (Kd.int .u8) 5 w' w.heap.size (fun _ => True) v249 t248) ∧ (b 11 = true → b 23 = false → Kd.R (Kd.int .u8) 5 w' w.heap.size (fun _ => True) v252 t251) ∧ (b 15 = true → b 23 = false → Kd.R (Kd.int .u8) 5 w' w.heap.size (fun _ => True) v255 y254) ∧ (b 18 = true → b 23 = false → Kd.R (Kd.int .u8) 5 w' w.heap.size (fun _ => True) v258 t257) ∧ (b 19 = true → b 23 = false → Kd.R (Kd.int .u8) 5 w' w.heap.size (fun _ => True) v261 y260) ∧ (b 22 = true → Kd.V (Kd.int .u8) 5 w' w.heap.size (fun k_ => k_ ≠ gb241) v264 y263) ∧ (b 23 = true → Kd.N (Kd.slice 5 (Kd.int .u8)) 22 w' w.heap.size (fun k_ => k_ ≠ gb241) v267 y266) ∧ (b 24 = true → Kd.R (Kd.int .u8) 5 w' w.heap.size (fun _ => True) v270 t269) ∧ (b 25 = true → (m25_ : Value) = v270)) HT_.out HW_.out (by kernel_rfl) (by kernel_rfl) ?_ ?_ ?_
     ·exact ⟨.bool false, .bool false, .bool false, .bool false, .bool false, .bool false, .bool false, .bool false, .bool false, .bool false, .bool false, by simp only [putSel, Bool.false_eq_true, if_false], BK241.out, HB.out, fun h_ => absurd h_ (by decide), fun h_ => absurd h_ (by decide), fun h_ => absurd h_ (by decide), fun h_ => absurd h_ (by decide), fun h_ => absurd h_ (by decide), fun h_ => absurd h_ (by decide), fun h_ => absurd h_ (by decide), fun h_ => absurd h_ (by decide), fun h_ => absurd h_ (by decide), fun h_ => absurd h_ (by decide), fun h_ => absurd h_ (by decide)⟩
     ·skip
      clear BK241 HB
      refine steps_cons ?_ ?_
      ·rintro b a w' ⟨v243, v246, v249, v252, v255, v258, v261, v264, v267, v270, m25_, ha, Q_BK241, Q_HB, Q_HO244, Q_HO247, Q_HO250, Q_HO253, Q_HO256, Q_HO259, Q_HO262, Q_HO265, Q_HO268, Q_HO271, Q_X25_⟩ hb_ hon hoff
       refine ⟨_, rfl, fun K hK => ?_⟩
       have e8 : a.tmps[8]? = some (.pointer (some ⟨gb241, 0, none⟩)) := by rw [ha]; exact (putSel_off rfl).trans rfl
       replace ha := Aside0.mk ha
       have BK241 := Aside0.mk Q_BK241
       have HB := Aside0.mk Q_HB
       have hc0_ : w'.cell? ⟨gb241, 0, none⟩ = some (.int .i64 a2_0) := (blk_cell BK241.out 0).trans rfl
       have hc1_ : w'.cell? ⟨gb241, 1, none⟩ = some (.int .i64 a2_1) := (blk_cell BK241.out 1).trans rfl
       have hc2_ : w'.cell? ⟨gb241, 2, none⟩ = some (.int .i64 a2_2) := (blk_cell BK241.out 2).trans rfl
       have hc3_ : w'.cell? ⟨gb241, 3, none⟩ = some (.int .i64 a2_3) := (blk_cell BK241.out 3).trans rfl
       have hc4_ : w'.cell? ⟨gb241, 4, none⟩ = some (.int .i64 a2_4) := (blk_cell BK241.out 4).trans rfl
       have hc5_ : w'.cell? ⟨gb241, 5, none⟩ = some (.int .i64 a2_5) := (blk_cell BK241.out 5).trans rfl
       have hc6_ : w'.cell? ⟨gb241, 6, none⟩ = some (.string a2_6) := (blk_cell BK241.out 6).trans rfl
       refine value_ (w1 := w') (v := .int .i64 a2_0) (by rfl) rfl ?_ ?_
       ·go_simp
        (try simp only [i64_w])
        try rfl
       refine hK.out _ _ ⟨v243, v246, v249, v252, v255, v258, v261, v264, v267, v270, m25_, (by rw [ha.out]; exact putSel_upk 0 hb_ rfl rfl rfl), Q_BK241, Q_HB, fun h0_ _ => absurd ((hoff 2 (by kernel_rfl)).symm.trans h0_) (by decide), fun h0_ _ => absurd ((hoff 5 (by kernel_rfl)).symm.trans h0_) (by decide), fun h0_ _ => absurd ((hoff 8 (by kernel_rfl)).symm.trans h0_) (by decide), fun h0_ _ => absurd ((hoff 11 (by kernel_rfl)).symm.trans h0_) (by decide), Q_HO256, fun h0_ _ => absurd ((hoff 18 (by kernel_rfl)).symm.trans h0_) (by decide), Q_HO262, Q_HO265, fun h0_ => absurd ((hoff 23 (by kernel_rfl)).symm.trans h0_) (by decide), fun h0_ => absurd ((hoff 24 (by kernel_rfl)).symm.trans h0_) (by decide), fun h0_ => absurd ((hoff 25 (by kernel_rfl)).symm.trans h0_) (by decide)⟩
      refine steps_cons ?_ ?_
      ·rintro b a w' ⟨v243, v246, v249, v252, v255, v258, v261, v264, v267, v270, m25_, ha, Q_BK241, Q_HB, Q_HO244, Q_HO247, Q_HO250, Q_HO253, Q_HO256, Q_HO259, Q_HO262, Q_HO265, Q_HO268, Q_HO271, Q_X25_⟩ hb_ hon hoff
       refine ⟨_, rfl, fun K hK => ?_⟩
       have e9 : a.tmps[9]? = some (.int .i64 a2_0) := by rw [ha]; exact putSel_on (e := (1, 9, .int .i64 a2_0)) 0 rfl rfl (hon 1 (by kernel_rfl)) rfl
       replace ha := Aside0.mk ha
       have BK241 := Aside0.mk Q_BK241
       have HB := Aside0.mk Q_HB
       refine goes_ Try.func62 (by kernel_rfl) rfl #[.int .i64 a2_0, .int .i64 2] (by rfl) rfl rfl (by first | (simp only [List.map_toArray, List.map_cons, List.map_nil, Act.eval, Array.getD_eq_getD_getElem?, Option.getD_some, e9]; done) | (simp only [List.map_toArray, List.map_cons, List.map_nil, Act.eval, Array.getD_eq_getD_getElem?, Option.getD_some, e9]; rfl)) ?_
       with_reducible refine (impl_be.calls k a2_0 2 t242 _ A4.out).mono ?_
       rintro e w18 ⟨v243, rfl, ho0, hb⟩
       refine ⟨_, rfl, ?_⟩
       have n0_ := Aside0.mk (Kd.R_lower ho0 (below_size (by repeat (first | (with_reducible first | exact HB.out | apply below_alloc | apply pw_below_drewN | apply below_drew1 | refine below_set ?_ GE241.out) | exact HB.out))))
       have n1_ := Aside0.mk (blk_below (g := gb241) (o := .cells #[.int .i64 a2_0, .int .i64 a2_1, .int .i64 a2_2, .int .i64 a2_3, .int .i64 a2_4, .int .i64 a2_5, .string a2_6] 67 (0, 0)) BK241.out hb)
       have n2_ := Aside0.mk (below_step HB.out hb)
       have z_HO256 := fun (h0_ : b 15 = true) (h1_ : b 23 = false) => (show Kd.R (Kd.int .u8) 5 w18 w.heap.size (fun _ => True) v255 y254 from Kd.R_mono (Kd.R_elder' (Q_HO256 h0_ h1_) (Kd.R_base ho0) hb) (fun _ h_ => by first | trivial | exact h_ | exact h_.1))
       have z_HO262 := fun (h0_ : b 19 = true) (h1_ : b 23 = false) => (show Kd.R (Kd.int .u8) 5 w18 w.heap.size (fun _ => True) v261 y260 from Kd.R_mono (Kd.R_elder' (Q_HO262 h0_ h1_) (Kd.R_base ho0) hb) (fun _ h_ => by first | trivial | exact h_ | exact h_.1))
       have z_HO265 := fun (h0_ : b 22 = true) => (show Kd.V (Kd.int .u8) 5 w18 w.heap.size (fun k_ => k_ ≠ gb241) v264 y263 from Kd.V_mono (Kd.V_elder' (Q_HO265 h0_) (Kd.R_base ho0) hb) (fun _ h_ => by first | trivial | exact h_ | exact h_.1))
       clear BK241
       clear HB
       have HO244 := n0_
       have BK241 := n1_
       have HB := n2_
       clear n0_ n1_ n2_
       (try clear hb)
       (try clear hb2)
       (try clear hk)
       (try clear hi)
       (try clear ho0)
       refine hK.out _ _ ⟨v243, v246, v249, v252, v255, v258, v261, v264, v267, v270, m25_, (by rw [ha.out]; exact putSel_upk 1 hb_ rfl rfl rfl), BK241.out, HB.out, fun _ _ => (by (with_reducible repeat (first | apply Kd.R_alloc | apply Kd.R_drewN | apply Kd.R_drew)); first | exact HO244.out | exact Kd.R_mono HO244.out (fun _ h_ => by first | trivial | exact h_ | exact h_.1)), fun h0_ _ => absurd ((hoff 5 (by kernel_rfl)).symm.trans h0_) (by decide), fun h0_ _ => absurd ((hoff 8 (by kernel_rfl)).symm.trans h0_) (by decide), fun h0_ _ => absurd ((hoff 11 (by kernel_rfl)).symm.trans h0_) (by decide), z_HO256, fun h0_ _ => absurd ((hoff 18 (by kernel_rfl)).symm.trans h0_) (by decide), z_HO262, z_HO265, fun h0_ => absurd ((hoff 23 (by kernel_rfl)).symm.trans h0_) (by decide), fun h0_ => absurd ((hoff 24 (by kernel_rfl)).symm.trans h0_) (by decide), fun h0_ => absurd ((hoff 25 (by kernel_rfl)).symm.trans h0_) (by decide)⟩
      refine steps_cons ?_ ?_
      ·rintro b a w' ⟨v243, v246, v249, v252, v255, v258, v261, v264, v267, v270, m25_, ha, Q_BK241, Q_HB, Q_HO244, Q_HO247, Q_HO250, Q_HO253, Q_HO256, Q_HO259, Q_HO262, Q_HO265, Q_HO268, Q_HO271, Q_X25_⟩ hb_ hon hoff
       refine ⟨_, rfl, fun K hK => ?_⟩
       have e11 : a.tmps[11]? = some (.pointer (some ⟨gb241, 1, none⟩)) := by rw [ha]; exact (putSel_off rfl).trans rfl
       replace ha := Aside0.mk ha
       have BK241 := Aside0.mk Q_BK241
       have HB := Aside0.mk Q_HB
       have hc0_ : w'.cell? ⟨gb241, 0, none⟩ = some (.int .i64 a2_0) := (blk_cell BK241.out 0).trans rfl
       have hc1_ : w'.cell? ⟨gb241, 1, none⟩ = some (.int .i64 a2_1) := (blk_cell BK241.out 1).trans rfl
       have hc2_ : w'.cell? ⟨gb241, 2, none⟩ = some (.int .i64 a2_2) := (blk_cell BK241.out 2).trans rfl
       have hc3_ : w'.cell? ⟨gb241, 3, none⟩ = some (.int .i64 a2_3) := (blk_cell BK241.out 3).trans rfl
       have hc4_ : w'.cell? ⟨gb241, 4, none⟩ = some (.int .i64 a2_4) := (blk_cell BK241.out 4).trans rfl
       have hc5_ : w'.cell? ⟨gb241, 5, none⟩ = some (.int .i64 a2_5) := (blk_cell BK241.out 5).trans rfl
       have hc6_ : w'.cell? ⟨gb241, 6, none⟩ = some (.string a2_6) := (blk_cell BK241.out 6).trans rfl
       refine value_ (w1 := w') (v := .int .i64 a2_1) (by rfl) rfl ?_ ?_
       ·go_simp
        (try simp only [i64_w])
        try rfl
       refine hK.out _ _ ⟨v243, v246, v249, v252, v255, v258, v261, v264, v267, v270, m25_, (by rw [ha.out]; exact putSel_upk 2 hb_ rfl rfl rfl), Q_BK241, Q_HB, Q_HO244, fun h0_ _ => absurd ((hoff 5 (by kernel_rfl)).symm.trans h0_) (by decide), fun h0_ _ => absurd ((hoff 8 (by kernel_rfl)).symm.trans h0_) (by decide), fun h0_ _ => absurd ((hoff 11 (by kernel_rfl)).symm.trans h0_) (by decide), Q_HO256, fun h0_ _ => absurd ((hoff 18 (by kernel_rfl)).symm.trans h0_) (by decide), Q_HO262, Q_HO265, fun h0_ => absurd ((hoff 23 (by kernel_rfl)).symm.trans h0_) (by decide), fun h0_ => absurd ((hoff 24 (by kernel_rfl)).symm.trans h0_) (by decide), fun h0_ => absurd ((hoff 25 (by kernel_rfl)).symm.trans h0_) (by decide)⟩
      refine steps_cons ?_ ?_
      ·rintro b a w' ⟨v243, v246, v249, v252, v255, v258, v261, v264, v267, v270, m25_, ha, Q_BK241, Q_HB, Q_HO244, Q_HO247, Q_HO250, Q_HO253, Q_HO256, Q_HO259, Q_HO262, Q_HO265, Q_HO268, Q_HO271, Q_X25_⟩ hb_ hon hoff
       refine ⟨_, rfl, fun K hK => ?_⟩
       have e12 : a.tmps[12]? = some (.int .i64 a2_1) := by rw [ha]; exact putSel_on (e := (4, 12, .int .i64 a2_1)) 2 rfl rfl (hon 4 (by kernel_rfl)) rfl
       replace ha := Aside0.mk ha
       have BK241 := Aside0.mk Q_BK241
       have HB := Aside0.mk Q_HB
       have HO244 := Aside0.mk (Q_HO244 (hon 2 (by kernel_rfl)) (hoff 23 (by kernel_rfl)))
       refine goes_ Try.func62 (by kernel_rfl) rfl #[.int .i64 a2_1, .int .i64 2] (by rfl) rfl rfl (by first | (simp only [List.map_toArray, List.map_cons, List.map_nil, Act.eval, Array.getD_eq_getD_getElem?, Option.getD_some, e12]; done) | (simp only [List.map_toArray, List.map_cons, List.map_nil, Act.eval, Array.getD_eq_getD_getElem?, Option.getD_some, e12]; rfl)) ?_
       with_reducible refine (impl_be.calls k a2_1 2 t245 _ A5.out).mono ?_
       rintro e w20 ⟨v246, rfl, ho0, hb⟩
       refine ⟨_, rfl, ?_⟩
       have n0_ := Aside0.mk (Kd.R_elder' HO244.out (Kd.R_base ho0) hb)
       have n1_ := Aside0.mk (Kd.R_lower (Kd.R_new' ho0 (Kd.R_lt (by (with_reducible repeat (first | apply Kd.R_alloc | apply Kd.R_drewN | apply Kd.R_drew)); exact HO244.out))) (below_size (by repeat (first | (with_reducible first | exact HB.out | apply below_alloc | apply pw_below_drewN | apply below_drew1 | refine below_set ?_ GE241.out) | exact HB.out))))
       have n2_ := Aside0.mk (blk_below (g := gb241) (o := .cells #[.int .i64 a2_0, .int .i64 a2_1, .int .i64 a2_2, .int .i64 a2_3, .int .i64 a2_4, .int .i64 a2_5, .string a2_6] 67 (0, 0)) BK241.out hb)
       have n3_ := Aside0.mk (below_step HB.out hb)
       have z_HO256 := fun (h0_ : b 15 = true) (h1_ : b 23 = false) => (show Kd.R (Kd.int .u8) 5 w20 w.heap.size (fun _ => True) v255 y254 from Kd.R_mono (Kd.R_elder' (Q_HO256 h0_ h1_) (Kd.R_base ho0) hb) (fun _ h_ => by first | trivial | exact h_ | exact h_.1))
       have z_HO262 := fun (h0_ : b 19 = true) (h1_ : b 23 = false) => (show Kd.R (Kd.int .u8) 5 w20 w.heap.size (fun _ => True) v261 y260 from Kd.R_mono (Kd.R_elder' (Q_HO262 h0_ h1_) (Kd.R_base ho0) hb) (fun _ h_ => by first | trivial | exact h_ | exact h_.1))
       have z_HO265 := fun (h0_ : b 22 = true) => (show Kd.V (Kd.int .u8) 5 w20 w.heap.size (fun k_ => k_ ≠ gb241) v264 y263 from Kd.V_mono (Kd.V_elder' (Q_HO265 h0_) (Kd.R_base ho0) hb) (fun _ h_ => by first | trivial | exact h_ | exact h_.1))
       clear HO244
       clear BK241
       clear HB
       have HO244 := n0_
       have HO247 := n1_
       have BK241 := n2_
       have HB := n3_
       clear n0_ n1_ n2_ n3_
       (try clear hb)
       (try clear hb2)
       (try clear hk)
       (try clear hi)
       (try clear ho0)
       refine hK.out _ _ ⟨v243, v246, v249, v252, v255, v258, v261, v264, v267, v270, m25_, (by rw [ha.out]; exact putSel_upk 3 hb_ rfl rfl rfl), BK241.out, HB.out, fun _ _ => (by (with_reducible repeat (first | apply Kd.R_alloc | apply Kd.R_drewN | apply Kd.R_drew)); exact Kd.R_mono HO244.out (fun _ hk => by first | trivial | exact hk.2 | exact hk.2 | exact hk.1 | exact hk | exact hk.1.2 | exact hk.1.1 | exact hk.2.1 | exact hk.2.2)), fun _ _ => (by (with_reducible repeat (first | apply Kd.R_alloc | apply Kd.R_drewN | apply Kd.R_drew)); exact Kd.R_mono HO247.out (fun _ hk => by first | trivial | exact hk.2 | exact hk.2 | exact hk.1 | exact hk | exact hk.1.2 | exact hk.1.1 | exact hk.2.1 | exact hk.2.2)), fun h0_ _ => absurd ((hoff 8 (by kernel_rfl)).symm.trans h0_) (by decide), fun h0_ _ => absurd ((hoff 11 (by kernel_rfl)).symm.trans h0_) (by decide), z_HO256, fun h0_ _ => absurd ((hoff 18 (by kernel_rfl)).symm.trans h0_) (by decide), z_HO262, z_HO265, fun h0_ => absurd ((hoff 23 (by kernel_rfl)).symm.trans h0_) (by decide), fun h0_ => absurd ((hoff 24 (by kernel_rfl)).symm.trans h0_) (by decide), fun h0_ => absurd ((hoff 25 (by kernel_rfl)).symm.trans h0_) (by decide)⟩
      refine steps_cons ?_ ?_
      ·rintro b a w' ⟨v243, v246, v249, v252, v255, v258, v261, v264, v267, v270, m25_, ha, Q_BK241, Q_HB, Q_HO244, Q_HO247, Q_HO250, Q_HO253, Q_HO256, Q_HO259, Q_HO262, Q_HO265, Q_HO268, Q_HO271, Q_X25_⟩ hb_ hon hoff
       refine ⟨_, rfl, fun K hK => ?_⟩
       have e14 : a.tmps[14]? = some (.pointer (some ⟨gb241, 2, none⟩)) := by rw [ha]; exact (putSel_off rfl).trans rfl
       replace ha := Aside0.mk ha
       have BK241 := Aside0.mk Q_BK241
       have HB := Aside0.mk Q_HB
       have hc0_ : w'.cell? ⟨gb241, 0, none⟩ = some (.int .i64 a2_0) := (blk_cell BK241.out 0).trans rfl
       have hc1_ : w'.cell? ⟨gb241, 1, none⟩ = some (.int .i64 a2_1) := (blk_cell BK241.out 1).trans rfl
       have hc2_ : w'.cell? ⟨gb241, 2, none⟩ = some (.int .i64 a2_2) := (blk_cell BK241.out 2).trans rfl
       have hc3_ : w'.cell? ⟨gb241, 3, none⟩ = some (.int .i64 a2_3) := (blk_cell BK241.out 3).trans rfl
       have hc4_ : w'.cell? ⟨gb241, 4, none⟩ = some (.int .i64 a2_4) := (blk_cell BK241.out 4).trans rfl
       have hc5_ : w'.cell? ⟨gb241, 5, none⟩ = some (.int .i64 a2_5) := (blk_cell BK241.out 5).trans rfl
       have hc6_ : w'.cell? ⟨gb241, 6, none⟩ = some (.string a2_6) := (blk_cell BK241.out 6).trans rfl
       refine value_ (w1 := w') (v := .int .i64 a2_2) (by rfl) rfl ?_ ?_
       ·go_simp
        (try simp only [i64_w])
        try rfl
       refine hK.out _ _ ⟨v243, v246, v249, v252, v255, v258, v261, v264, v267, v270, m25_, (by rw [ha.out]; exact putSel_upk 4 hb_ rfl rfl rfl), Q_BK241, Q_HB, Q_HO244, Q_HO247, fun h0_ _ => absurd ((hoff 8 (by kernel_rfl)).symm.trans h0_) (by decide), fun h0_ _ => absurd ((hoff 11 (by kernel_rfl)).symm.trans h0_) (by decide), Q_HO256, fun h0_ _ => absurd ((hoff 18 (by kernel_rfl)).symm.trans h0_) (by decide), Q_HO262, Q_HO265, fun h0_ => absurd ((hoff 23 (by kernel_rfl)).symm.trans h0_) (by decide), fun h0_ => absurd ((hoff 24 (by kernel_rfl)).symm.trans h0_) (by decide), fun h0_ => absurd ((hoff 25 (by kernel_rfl)).symm.trans h0_) (by decide)⟩
      refine steps_cons ?_ ?_
      ·rintro b a w' ⟨v243, v246, v249, v252, v255, v258, v261, v264, v267, v270, m25_, ha, Q_BK241, Q_HB, Q_HO244, Q_HO247, Q_HO250, Q_HO253, Q_HO256, Q_HO259, Q_HO262, Q_HO265, Q_HO268, Q_HO271, Q_X25_⟩ hb_ hon hoff
       refine ⟨_, rfl, fun K hK => ?_⟩
       have e15 : a.tmps[15]? = some (.int .i64 a2_2) := by rw [ha]; exact putSel_on (e := (7, 15, .int .i64 a2_2)) 4 rfl rfl (hon 7 (by kernel_rfl)) rfl
       replace ha := Aside0.mk ha
       have BK241 := Aside0.mk Q_BK241
       have HB := Aside0.mk Q_HB
       have HO244 := Aside0.mk (Q_HO244 (hon 2 (by kernel_rfl)) (hoff 23 (by kernel_rfl)))
       have HO247 := Aside0.mk (Q_HO247 (hon 5 (by kernel_rfl)) (hoff 23 (by kernel_rfl)))
       refine goes_ Try.func62 (by kernel_rfl) rfl #[.int .i64 a2_2, .int .i64 4] (by rfl) rfl rfl (by first | (simp only [List.map_toArray, List.map_cons, List.map_nil, Act.eval, Array.getD_eq_getD_getElem?, Option.getD_some, e15]; done) | (simp only [List.map_toArray, List.map_cons, List.map_nil, Act.eval, Array.getD_eq_getD_getElem?, Option.getD_some, e15]; rfl)) ?_
       with_reducible refine (impl_be.calls k a2_2 4 t248 _ A6.out).mono ?_
       rintro e w21 ⟨v249, rfl, ho0, hb⟩
       refine ⟨_, rfl, ?_⟩
       have n0_ := Aside0.mk (Kd.R_elder' HO244.out (Kd.R_base ho0) hb)
       have n1_ := Aside0.mk (Kd.R_elder' HO247.out (Kd.R_base ho0) hb)
       have n2_ := Aside0.mk (Kd.R_lower (Kd.R_new' (Kd.R_new' ho0 (Kd.R_lt (by (with_reducible repeat (first | apply Kd.R_alloc | apply Kd.R_drewN | apply Kd.R_drew)); exact HO244.out))) (Kd.R_lt (by (with_reducible repeat (first | apply Kd.R_alloc | apply Kd.R_drewN | apply Kd.R_drew)); exact HO247.out))) (below_size (by repeat (first | (with_reducible first | exact HB.out | apply below_alloc | apply pw_below_drewN | apply below_drew1 | refine below_set ?_ GE241.out) | exact HB.out))))
       have n3_ := Aside0.mk (blk_below (g := gb241) (o := .cells #[.int .i64 a2_0, .int .i64 a2_1, .int .i64 a2_2, .int .i64 a2_3, .int .i64 a2_4, .int .i64 a2_5, .string a2_6] 67 (0, 0)) BK241.out hb)
       have n4_ := Aside0.mk (below_step HB.out hb)
       have z_HO256 := fun (h0_ : b 15 = true) (h1_ : b 23 = false) => (show Kd.R (Kd.int .u8) 5 w21 w.heap.size (fun _ => True) v255 y254 from Kd.R_mono (Kd.R_elder' (Q_HO256 h0_ h1_) (Kd.R_base ho0) hb) (fun _ h_ => by first | trivial | exact h_ | exact h_.1))
       have z_HO262 := fun (h0_ : b 19 = true) (h1_ : b 23 = false) => (show Kd.R (Kd.int .u8) 5 w21 w.heap.size (fun _ => True) v261 y260 from Kd.R_mono (Kd.R_elder' (Q_HO262 h0_ h1_) (Kd.R_base ho0) hb) (fun _ h_ => by first | trivial | exact h_ | exact h_.1))
       have z_HO265 := fun (h0_ : b 22 = true) => (show Kd.V (Kd.int .u8) 5 w21 w.heap.size (fun k_ => k_ ≠ gb241) v264 y263 from Kd.V_mono (Kd.V_elder' (Q_HO265 h0_) (Kd.R_base ho0) hb) (fun _ h_ => by first | trivial | exact h_ | exact h_.1))
       clear HO244
       clear HO247
       clear BK241
       clear HB
       have HO244 := n0_
       have HO247 := n1_
       have HO250 := n2_
       have BK241 := n3_
       have HB := n4_
       clear n0_ n1_ n2_ n3_ n4_
       (try clear hb)
       (try clear hb2)
       (try clear hk)
       (try clear hi)
       (try clear ho0)
       refine hK.out _ _ ⟨v243, v246, v249, v252, v255, v258, v261, v264, v267, v270, m25_, (by rw [ha.out]; exact putSel_upk 5 hb_ rfl rfl rfl), BK241.out, HB.out, fun _ _ => (by (with_reducible repeat (first | apply Kd.R_alloc | apply Kd.R_drewN | apply Kd.R_drew)); first | exact HO244.out | exact Kd.R_mono HO244.out (fun _ h_ => by first | trivial | exact h_ | exact h_.1)), fun _ _ => (by (with_reducible repeat (first | apply Kd.R_alloc | apply Kd.R_drewN | apply Kd.R_drew)); first | exact HO247.out | exact Kd.R_mono HO247.out (fun _ h_ => by first | trivial | exact h_ | exact h_.1)), fun _ _ => (by (with_reducible repeat (first | apply Kd.R_alloc | apply Kd.R_drewN | apply Kd.R_drew)); exact Kd.R_mono HO250.out (fun _ hk => by first | trivial | exact ⟨hk.1.2, hk.2⟩ | exact hk.2 | exact hk.1 | exact hk | exact hk.1.2 | exact hk.1.1 | exact hk.2.1 | exact hk.2.2)), fun h0_ _ => absurd ((hoff 11 (by kernel_rfl)).symm.trans h0_) (by decide), z_HO256, fun h0_ _ => absurd ((hoff 18 (by kernel_rfl)).symm.trans h0_) (by decide), z_HO262, z_HO265, fun h0_ => absurd ((hoff 23 (by kernel_rfl)).symm.trans h0_) (by decide), fun h0_ => absurd ((hoff 24 (by kernel_rfl)).symm.trans h0_) (by decide), fun h0_ => absurd ((hoff 25 (by kernel_rfl)).symm.trans h0_) (by decide)⟩
      refine steps_cons ?_ ?_
      ·rintro b a w' ⟨v243, v246, v249, v252, v255, v258, v261, v264, v267, v270, m25_, ha, Q_BK241, Q_HB, Q_HO244, Q_HO247, Q_HO250, Q_HO253, Q_HO256, Q_HO259, Q_HO262, Q_HO265, Q_HO268, Q_HO271, Q_X25_⟩ hb_ hon hoff
       refine ⟨_, rfl, fun K hK => ?_⟩
       have e17 : a.tmps[17]? = some (.pointer (some ⟨gb241, 3, none⟩)) := by rw [ha]; exact (putSel_off rfl).trans rfl
       replace ha := Aside0.mk ha
       have BK241 := Aside0.mk Q_BK241
       have HB := Aside0.mk Q_HB
       have hc0_ : w'.cell? ⟨gb241, 0, none⟩ = some (.int .i64 a2_0) := (blk_cell BK241.out 0).trans rfl
       have hc1_ : w'.cell? ⟨gb241, 1, none⟩ = some (.int .i64 a2_1) := (blk_cell BK241.out 1).trans rfl
       have hc2_ : w'.cell? ⟨gb241, 2, none⟩ = some (.int .i64 a2_2) := (blk_cell BK241.out 2).trans rfl
       have hc3_ : w'.cell? ⟨gb241, 3, none⟩ = some (.int .i64 a2_3) := (blk_cell BK241.out 3).trans rfl
       have hc4_ : w'.cell? ⟨gb241, 4, none⟩ = some (.int .i64 a2_4) := (blk_cell BK241.out 4).trans rfl
       have hc5_ : w'.cell? ⟨gb241, 5, none⟩ = some (.int .i64 a2_5) := (blk_cell BK241.out 5).trans rfl
       have hc6_ : w'.cell? ⟨gb241, 6, none⟩ = some (.string a2_6) := (blk_cell BK241.out 6).trans rfl
       refine value_ (w1 := w') (v := .int .i64 a2_3) (by rfl) rfl ?_ ?_
       ·go_simp
        (try simp only [i64_w])
        try rfl
       refine hK.out _ _ ⟨v243, v246, v249, v252, v255, v258, v261, v264, v267, v270, m25_, (by rw [ha.out]; exact putSel_upk 6 hb_ rfl rfl rfl), Q_BK241, Q_HB, Q_HO244, Q_HO247, Q_HO250, fun h0_ _ => absurd ((hoff 11 (by kernel_rfl)).symm.trans h0_) (by decide), Q_HO256, fun h0_ _ => absurd ((hoff 18 (by kernel_rfl)).symm.trans h0_) (by decide), Q_HO262, Q_HO265, fun h0_ => absurd ((hoff 23 (by kernel_rfl)).symm.trans h0_) (by decide), fun h0_ => absurd ((hoff 24 (by kernel_rfl)).symm.trans h0_) (by decide), fun h0_ => absurd ((hoff 25 (by kernel_rfl)).symm.trans h0_) (by decide)⟩
      refine steps_cons ?_ ?_
      ·rintro b a w' ⟨v243, v246, v249, v252, v255, v258, v261, v264, v267, v270, m25_, ha, Q_BK241, Q_HB, Q_HO244, Q_HO247, Q_HO250, Q_HO253, Q_HO256, Q_HO259, Q_HO262, Q_HO265, Q_HO268, Q_HO271, Q_X25_⟩ hb_ hon hoff
       refine ⟨_, rfl, fun K hK => ?_⟩
       have e18 : a.tmps[18]? = some (.int .i64 a2_3) := by rw [ha]; exact putSel_on (e := (10, 18, .int .i64 a2_3)) 6 rfl rfl (hon 10 (by kernel_rfl)) rfl
       replace ha := Aside0.mk ha
       have BK241 := Aside0.mk Q_BK241
       have HB := Aside0.mk Q_HB
       have HO244 := Aside0.mk (Q_HO244 (hon 2 (by kernel_rfl)) (hoff 23 (by kernel_rfl)))
       have HO247 := Aside0.mk (Q_HO247 (hon 5 (by kernel_rfl)) (hoff 23 (by kernel_rfl)))
       have HO250 := Aside0.mk (Q_HO250 (hon 8 (by kernel_rfl)) (hoff 23 (by kernel_rfl)))
       refine goes_ Try.func62 (by kernel_rfl) rfl #[.int .i64 a2_3, .int .i64 4] (by rfl) rfl rfl (by first | (simp only [List.map_toArray, List.map_cons, List.map_nil, Act.eval, Array.getD_eq_getD_getElem?, Option.getD_some, e18]; done) | (simp only [List.map_toArray, List.map_cons, List.map_nil, Act.eval, Array.getD_eq_getD_getElem?, Option.getD_some, e18]; rfl)) ?_
       with_reducible refine (impl_be.calls k a2_3 4 t251 _ A7.out).mono ?_
       rintro e w22 ⟨v252, rfl, ho0, hb⟩
       refine ⟨_, rfl, ?_⟩
       have n0_ := Aside0.mk (Kd.R_elder' HO244.out (Kd.R_base ho0) hb)
       have n1_ := Aside0.mk (Kd.R_elder' HO247.out (Kd.R_base ho0) hb)
       have n2_ := Aside0.mk (Kd.R_elder' HO250.out (Kd.R_base ho0) hb)
       have n3_ := Aside0.mk (Kd.R_lower (Kd.R_new' (Kd.R_new' (Kd.R_new' ho0 (Kd.R_lt (by (with_reducible repeat (first | apply Kd.R_alloc | apply Kd.R_drewN | apply Kd.R_drew)); exact HO244.out))) (Kd.R_lt (by (with_reducible repeat (first | apply Kd.R_alloc | apply Kd.R_drewN | apply Kd.R_drew)); exact HO247.out))) (Kd.R_lt (by (with_reducible repeat (first | apply Kd.R_alloc | apply Kd.R_drewN | apply Kd.R_drew)); exact HO250.out))) (below_size (by repeat (first | (with_reducible first | exact HB.out | apply below_alloc | apply pw_below_drewN | apply below_drew1 | refine below_set ?_ GE241.out) | exact HB.out))))
       have n4_ := Aside0.mk (blk_below (g := gb241) (o := .cells #[.int .i64 a2_0, .int .i64 a2_1, .int .i64 a2_2, .int .i64 a2_3, .int .i64 a2_4, .int .i64 a2_5, .string a2_6] 67 (0, 0)) BK241.out hb)
       have n5_ := Aside0.mk (below_step HB.out hb)
       have z_HO256 := fun (h0_ : b 15 = true) (h1_ : b 23 = false) => (show Kd.R (Kd.int .u8) 5 w22 w.heap.size (fun _ => True) v255 y254 from Kd.R_mono (Kd.R_elder' (Q_HO256 h0_ h1_) (Kd.R_base ho0) hb) (fun _ h_ => by first | trivial | exact h_ | exact h_.1))
       have z_HO262 := fun (h0_ : b 19 = true) (h1_ : b 23 = false) => (show Kd.R (Kd.int .u8) 5 w22 w.heap.size (fun _ => True) v261 y260 from Kd.R_mono (Kd.R_elder' (Q_HO262 h0_ h1_) (Kd.R_base ho0) hb) (fun _ h_ => by first | trivial | exact h_ | exact h_.1))
       have z_HO265 := fun (h0_ : b 22 = true) => (show Kd.V (Kd.int .u8) 5 w22 w.heap.size (fun k_ => k_ ≠ gb241) v264 y263 from Kd.V_mono (Kd.V_elder' (Q_HO265 h0_) (Kd.R_base ho0) hb) (fun _ h_ => by first | trivial | exact h_ | exact h_.1))
       clear HO244
       clear HO247
       clear HO250
       clear BK241
       clear HB
       have HO244 := n0_
       have HO247 := n1_
       have HO250 := n2_
       have HO253 := n3_
       have BK241 := n4_
       have HB := n5_
       clear n0_ n1_ n2_ n3_ n4_ n5_
       (try clear hb)
       (try clear hb2)
       (try clear hk)
       (try clear hi)
       (try clear ho0)
       refine hK.out _ _ ⟨v243, v246, v249, v252, v255, v258, v261, v264, v267, v270, m25_, (by rw [ha.out]; exact putSel_upk 7 hb_ rfl rfl rfl), BK241.out, HB.out, fun _ _ => (by (with_reducible repeat (first | apply Kd.R_alloc | apply Kd.R_drewN | apply Kd.R_drew)); exact Kd.R_mono HO244.out (fun _ hk => by first | trivial | exact ⟨hk.1.1, ⟨hk.1.2, hk.2⟩⟩ | exact hk.2 | exact hk.1 | exact hk | exact hk.1.2 | exact hk.1.1 | exact hk.2.1 | exact hk.2.2)), fun _ _ => (by (with_reducible repeat (first | apply Kd.R_alloc | apply Kd.R_drewN | apply Kd.R_drew)); exact Kd.R_mono HO247.out (fun _ hk => by first | trivial | exact ⟨hk.1.1, ⟨hk.1.2, hk.2⟩⟩ | exact hk.2 | exact hk.1 | exact hk | exact hk.1.2 | exact hk.1.1 | exact hk.2.1 | exact hk.2.2)), fun _ _ => (by (with_reducible repeat (first | apply Kd.R_alloc | apply Kd.R_drewN | apply Kd.R_drew)); exact Kd.R_mono HO250.out (fun _ hk => by first | trivial | exact ⟨hk.1.1, ⟨hk.1.2, hk.2⟩⟩ | exact hk.2 | exact hk.1 | exact hk | exact hk.1.2 | exact hk.1.1 | exact hk.2.1 | exact hk.2.2)), fun _ _ => (by (with_reducible repeat (first | apply Kd.R_alloc | apply Kd.R_drewN | apply Kd.R_drew)); exact Kd.R_mono HO253.out (fun _ hk => by first | trivial | exact ⟨hk.1.1.2, ⟨hk.1.2, hk.2⟩⟩ | exact hk.2 | exact hk.1 | exact hk | exact hk.1.2 | exact hk.1.1 | exact hk.2.1 | exact hk.2.2)), z_HO256, fun h0_ _ => absurd ((hoff 18 (by kernel_rfl)).symm.trans h0_) (by decide), z_HO262, z_HO265, fun h0_ => absurd ((hoff 23 (by kernel_rfl)).symm.trans h0_) (by decide), fun h0_ => absurd ((hoff 24 (by kernel_rfl)).symm.trans h0_) (by decide), fun h0_ => absurd ((hoff 25 (by kernel_rfl)).symm.trans h0_) (by decide)⟩
      refine steps_cons ?_ ?_
      ·rintro b a w' ⟨v243, v246, v249, v252, v255, v258, v261, v264, v267, v270, m25_, ha, Q_BK241, Q_HB, Q_HO244, Q_HO247, Q_HO250, Q_HO253, Q_HO256, Q_HO259, Q_HO262, Q_HO265, Q_HO268, Q_HO271, Q_X25_⟩ hb_ hon hoff
       refine ⟨_, rfl, fun K hK => ?_⟩
       have e20 : a.tmps[20]? = some (.pointer (some ⟨gb241, 4, none⟩)) := by rw [ha]; exact (putSel_off rfl).trans rfl
       replace ha := Aside0.mk ha
       have BK241 := Aside0.mk Q_BK241
       have HB := Aside0.mk Q_HB
       have hc0_ : w'.cell? ⟨gb241, 0, none⟩ = some (.int .i64 a2_0) := (blk_cell BK241.out 0).trans rfl
       have hc1_ : w'.cell? ⟨gb241, 1, none⟩ = some (.int .i64 a2_1) := (blk_cell BK241.out 1).trans rfl
       have hc2_ : w'.cell? ⟨gb241, 2, none⟩ = some (.int .i64 a2_2) := (blk_cell BK241.out 2).trans rfl
       have hc3_ : w'.cell? ⟨gb241, 3, none⟩ = some (.int .i64 a2_3) := (blk_cell BK241.out 3).trans rfl
       have hc4_ : w'.cell? ⟨gb241, 4, none⟩ = some (.int .i64 a2_4) := (blk_cell BK241.out 4).trans rfl
       have hc5_ : w'.cell? ⟨gb241, 5, none⟩ = some (.int .i64 a2_5) := (blk_cell BK241.out 5).trans rfl
       have hc6_ : w'.cell? ⟨gb241, 6, none⟩ = some (.string a2_6) := (blk_cell BK241.out 6).trans rfl
       refine value_ (w1 := w') (v := .int .i64 a2_4) (by rfl) rfl ?_ ?_
       ·go_simp
        (try simp only [i64_w])
        try rfl
       refine hK.out _ _ ⟨v243, v246, v249, v252, v255, v258, v261, v264, v267, v270, m25_, (by rw [ha.out]; exact putSel_upk 8 hb_ rfl rfl rfl), Q_BK241, Q_HB, Q_HO244, Q_HO247, Q_HO250, Q_HO253, fun h0_ _ => absurd ((hoff 15 (by kernel_rfl)).symm.trans h0_) (by decide), Q_HO259, Q_HO262, Q_HO265, fun h0_ => absurd ((hoff 23 (by kernel_rfl)).symm.trans h0_) (by decide), fun h0_ => absurd ((hoff 24 (by kernel_rfl)).symm.trans h0_) (by decide), fun h0_ => absurd ((hoff 25 (by kernel_rfl)).symm.trans h0_) (by decide)⟩
      refine steps_cons ?_ ?_
      ·rintro b a w' ⟨v243, v246, v249, v252, v255, v258, v261, v264, v267, v270, m25_, ha, Q_BK241, Q_HB, Q_HO244, Q_HO247, Q_HO250, Q_HO253, Q_HO256, Q_HO259, Q_HO262, Q_HO265, Q_HO268, Q_HO271, Q_X25_⟩ hb_ hon hoff
       refine ⟨_, rfl, fun K hK => ?_⟩
       have e21 : a.tmps[21]? = some (.int .i64 a2_4) := by rw [ha]; exact putSel_on (e := (13, 21, .int .i64 a2_4)) 8 rfl rfl (hon 13 (by kernel_rfl)) rfl
       replace ha := Aside0.mk ha
       have BK241 := Aside0.mk Q_BK241
       have HB := Aside0.mk Q_HB
       refine value_ (w1 := w') (v := .int .u8 ((a2_4) % 256)) (by rfl) rfl ?_ ?_
       ·go_simp
        (try simp only [i64_w])
        try rfl
       refine hK.out _ _ ⟨v243, v246, v249, v252, v255, v258, v261, v264, v267, v270, m25_, (by rw [ha.out]; exact putSel_upk 9 hb_ rfl rfl rfl), Q_BK241, Q_HB, Q_HO244, Q_HO247, Q_HO250, Q_HO253, fun h0_ _ => absurd ((hoff 15 (by kernel_rfl)).symm.trans h0_) (by decide), Q_HO259, Q_HO262, Q_HO265, fun h0_ => absurd ((hoff 23 (by kernel_rfl)).symm.trans h0_) (by decide), fun h0_ => absurd ((hoff 24 (by kernel_rfl)).symm.trans h0_) (by decide), fun h0_ => absurd ((hoff 25 (by kernel_rfl)).symm.trans h0_) (by decide)⟩
      refine steps_cons ?_ ?_
      ·rintro b a w' ⟨v243, v246, v249, v252, v255, v258, v261, v264, v267, v270, m25_, ha, Q_BK241, Q_HB, Q_HO244, Q_HO247, Q_HO250, Q_HO253, Q_HO256, Q_HO259, Q_HO262, Q_HO265, Q_HO268, Q_HO271, Q_X25_⟩ hb_ hon hoff
       refine ⟨_, rfl, fun K hK => ?_⟩
       have e22 : a.tmps[22]? = some (.int .u8 ((a2_4) % 256)) := by rw [ha]; exact putSel_on (e := (14, 22, .int .u8 ((a2_4) % 256))) 9 rfl rfl (hon 14 (by kernel_rfl)) rfl
       replace ha := Aside0.mk ha
       have BK241 := Aside0.mk Q_BK241
       have HB := Aside0.mk Q_HB
       refine Kd.R_lit_step (Kd.int .u8) _ 5 ?hg (N := 23) ?hd (xs := ([80, (a2_4) % 256] : List Int)) (inner := [.int .u8 80, .int .u8 ((a2_4) % 256)]) (ok := fun _ => True) (okp := fun _ => True) ?hr ?hp (fun _ hk => hk) trivial (Below.refl _ _) (Nat.le_refl _) (by simp) ?_; (case hd => rfl); (case hg => rfl); (case hr => first | (go_simp; done) | (go_simp; rfl)); (case hp => exact (Reps.one (show Kd.M (Kd.int .u8) _ _ _ 80 [.int .u8 80] from rfl) (Reps.one (show Kd.M (Kd.int .u8) _ _ _ ((a2_4) % 256) [.int .u8 ((a2_4) % 256)] from rfl) (Reps.none _ _))))
       intro v255 w18 ho19 hb hg_ hnew_
       clear hg_ hnew_
       (first | rw [← Ny254.out] at ho19 | (simp only [Int.reduceToNat] at ho19; rw [← Ny254.out] at ho19))
       have n0_ := Aside0.mk (Kd.R_lower ho19 (below_size (by repeat (first | (with_reducible first | exact HB.out | apply below_alloc | apply pw_below_drewN | apply below_drew1 | refine below_set ?_ GE241.out) | exact HB.out))))
       have n1_ := Aside0.mk (blk_below (g := gb241) (o := .cells #[.int .i64 a2_0, .int .i64 a2_1, .int .i64 a2_2, .int .i64 a2_3, .int .i64 a2_4, .int .i64 a2_5, .string a2_6] 67 (0, 0)) BK241.out hb)
       have n2_ := Aside0.mk (below_step HB.out hb)
       have z_HO244 := fun (h0_ : b 2 = true) (h1_ : b 23 = false) => (show Kd.R (Kd.int .u8) 5 w18 w.heap.size (fun _ => True) v243 t242 from Kd.R_mono (Kd.R_elder' (Q_HO244 h0_ h1_) (Kd.R_base ho19) hb) (fun _ h_ => by first | trivial | exact h_ | exact h_.1))
       have z_HO247 := fun (h0_ : b 5 = true) (h1_ : b 23 = false) => (show Kd.R (Kd.int .u8) 5 w18 w.heap.size (fun _ => True) v246 t245 from Kd.R_mono (Kd.R_elder' (Q_HO247 h0_ h1_) (Kd.R_base ho19) hb) (fun _ h_ => by first | trivial | exact h_ | exact h_.1))
       have z_HO250 := fun (h0_ : b 8 = true) (h1_ : b 23 = false) => (show Kd.R (Kd.int .u8) 5 w18 w.heap.size (fun _ => True) v249 t248 from Kd.R_mono (Kd.R_elder' (Q_HO250 h0_ h1_) (Kd.R_base ho19) hb) (fun _ h_ => by first | trivial | exact h_ | exact h_.1))
       have z_HO253 := fun (h0_ : b 11 = true) (h1_ : b 23 = false) => (show Kd.R (Kd.int .u8) 5 w18 w.heap.size (fun _ => True) v252 t251 from Kd.R_mono (Kd.R_elder' (Q_HO253 h0_ h1_) (Kd.R_base ho19) hb) (fun _ h_ => by first | trivial | exact h_ | exact h_.1))
       have z_HO259 := fun (h0_ : b 18 = true) (h1_ : b 23 = false) => (show Kd.R (Kd.int .u8) 5 w18 w.heap.size (fun _ => True) v258 t257 from Kd.R_mono (Kd.R_elder' (Q_HO259 h0_ h1_) (Kd.R_base ho19) hb) (fun _ h_ => by first | trivial | exact h_ | exact h_.1))
       have z_HO262 := fun (h0_ : b 19 = true) (h1_ : b 23 = false) => (show Kd.R (Kd.int .u8) 5 w18 w.heap.size (fun _ => True) v261 y260 from Kd.R_mono (Kd.R_elder' (Q_HO262 h0_ h1_) (Kd.R_base ho19) hb) (fun _ h_ => by first | trivial | exact h_ | exact h_.1))
       have z_HO265 := fun (h0_ : b 22 = true) => (show Kd.V (Kd.int .u8) 5 w18 w.heap.size (fun k_ => k_ ≠ gb241) v264 y263 from Kd.V_mono (Kd.V_elder' (Q_HO265 h0_) (Kd.R_base ho19) hb) (fun _ h_ => by first | trivial | exact h_ | exact h_.1))
       clear BK241
       clear HB
       have HO256 := n0_
       have BK241 := n1_
       have HB := n2_
       clear n0_ n1_ n2_
       clear hb ho19
       refine hK.out _ _ ⟨v243, v246, v249, v252, v255, v258, v261, v264, v267, v270, m25_, (by rw [ha.out]; exact putSel_upk 10 hb_ rfl rfl rfl), BK241.out, HB.out, z_HO244, z_HO247, z_HO250, z_HO253, fun _ _ => (by (with_reducible repeat (first | apply Kd.R_alloc | apply Kd.R_drewN | apply Kd.R_drew)); first | exact HO256.out | exact Kd.R_mono HO256.out (fun _ h_ => by first | trivial | exact h_ | exact h_.1)), z_HO259, z_HO262, z_HO265, fun h0_ => absurd ((hoff 23 (by kernel_rfl)).symm.trans h0_) (by decide), fun h0_ => absurd ((hoff 24 (by kernel_rfl)).symm.trans h0_) (by decide), fun h0_ => absurd ((hoff 25 (by kernel_rfl)).symm.trans h0_) (by decide)⟩
      refine steps_cons ?_ ?_
      ·rintro b a w' ⟨v243, v246, v249, v252, v255, v258, v261, v264, v267, v270, m25_, ha, Q_BK241, Q_HB, Q_HO244, Q_HO247, Q_HO250, Q_HO253, Q_HO256, Q_HO259, Q_HO262, Q_HO265, Q_HO268, Q_HO271, Q_X25_⟩ hb_ hon hoff
       refine ⟨_, rfl, fun K hK => ?_⟩
       have e24 : a.tmps[24]? = some (.pointer (some ⟨gb241, 5, none⟩)) := by rw [ha]; exact (putSel_off rfl).trans rfl
       replace ha := Aside0.mk ha
       have BK241 := Aside0.mk Q_BK241
       have HB := Aside0.mk Q_HB
       have hc0_ : w'.cell? ⟨gb241, 0, none⟩ = some (.int .i64 a2_0) := (blk_cell BK241.out 0).trans rfl
       have hc1_ : w'.cell? ⟨gb241, 1, none⟩ = some (.int .i64 a2_1) := (blk_cell BK241.out 1).trans rfl
       have hc2_ : w'.cell? ⟨gb241, 2, none⟩ = some (.int .i64 a2_2) := (blk_cell BK241.out 2).trans rfl
       have hc3_ : w'.cell? ⟨gb241, 3, none⟩ = some (.int .i64 a2_3) := (blk_cell BK241.out 3).trans rfl
       have hc4_ : w'.cell? ⟨gb241, 4, none⟩ = some (.int .i64 a2_4) := (blk_cell BK241.out 4).trans rfl
       have hc5_ : w'.cell? ⟨gb241, 5, none⟩ = some (.int .i64 a2_5) := (blk_cell BK241.out 5).trans rfl
       have hc6_ : w'.cell? ⟨gb241, 6, none⟩ = some (.string a2_6) := (blk_cell BK241.out 6).trans rfl
       refine value_ (w1 := w') (v := .int .i64 a2_5) (by rfl) rfl ?_ ?_
       ·go_simp
        (try simp only [i64_w])
        try rfl
       refine hK.out _ _ ⟨v243, v246, v249, v252, v255, v258, v261, v264, v267, v270, m25_, (by rw [ha.out]; exact putSel_upk 11 hb_ rfl rfl rfl), Q_BK241, Q_HB, Q_HO244, Q_HO247, Q_HO250, Q_HO253, Q_HO256, fun h0_ _ => absurd ((hoff 18 (by kernel_rfl)).symm.trans h0_) (by decide), Q_HO262, Q_HO265, fun h0_ => absurd ((hoff 23 (by kernel_rfl)).symm.trans h0_) (by decide), fun h0_ => absurd ((hoff 24 (by kernel_rfl)).symm.trans h0_) (by decide), fun h0_ => absurd ((hoff 25 (by kernel_rfl)).symm.trans h0_) (by decide)⟩
      refine steps_cons ?_ ?_
      ·rintro b a w' ⟨v243, v246, v249, v252, v255, v258, v261, v264, v267, v270, m25_, ha, Q_BK241, Q_HB, Q_HO244, Q_HO247, Q_HO250, Q_HO253, Q_HO256, Q_HO259, Q_HO262, Q_HO265, Q_HO268, Q_HO271, Q_X25_⟩ hb_ hon hoff
       refine ⟨_, rfl, fun K hK => ?_⟩
       have e25 : a.tmps[25]? = some (.int .i64 a2_5) := by rw [ha]; exact putSel_on (e := (17, 25, .int .i64 a2_5)) 11 rfl rfl (hon 17 (by kernel_rfl)) rfl
       replace ha := Aside0.mk ha
       have BK241 := Aside0.mk Q_BK241
       have HB := Aside0.mk Q_HB
       have HO244 := Aside0.mk (Q_HO244 (hon 2 (by kernel_rfl)) (hoff 23 (by kernel_rfl)))
       have HO247 := Aside0.mk (Q_HO247 (hon 5 (by kernel_rfl)) (hoff 23 (by kernel_rfl)))
       have HO250 := Aside0.mk (Q_HO250 (hon 8 (by kernel_rfl)) (hoff 23 (by kernel_rfl)))
       have HO253 := Aside0.mk (Q_HO253 (hon 11 (by kernel_rfl)) (hoff 23 (by kernel_rfl)))
       refine goes_ Try.func62 (by kernel_rfl) rfl #[.int .i64 a2_5, .int .i64 2] (by rfl) rfl rfl (by first | (simp only [List.map_toArray, List.map_cons, List.map_nil, Act.eval, Array.getD_eq_getD_getElem?, Option.getD_some, e25]; done) | (simp only [List.map_toArray, List.map_cons, List.map_nil, Act.eval, Array.getD_eq_getD_getElem?, Option.getD_some, e25]; rfl)) ?_
       with_reducible refine (impl_be.calls k a2_5 2 t257 _ A8.out).mono ?_
       rintro e w23 ⟨v258, rfl, ho0, hb⟩
       refine ⟨_, rfl, ?_⟩
       have n0_ := Aside0.mk (Kd.R_elder' HO244.out (Kd.R_base ho0) hb)
       have n1_ := Aside0.mk (Kd.R_elder' HO247.out (Kd.R_base ho0) hb)
       have n2_ := Aside0.mk (Kd.R_elder' HO250.out (Kd.R_base ho0) hb)
       have n3_ := Aside0.mk (Kd.R_elder' HO253.out (Kd.R_base ho0) hb)
       have n4_ := Aside0.mk (Kd.R_lower (Kd.R_new' (Kd.R_new' (Kd.R_new' (Kd.R_new' ho0 (Kd.R_lt (by (with_reducible repeat (first | apply Kd.R_alloc | apply Kd.R_drewN | apply Kd.R_drew)); exact HO244.out))) (Kd.R_lt (by (with_reducible repeat (first | apply Kd.R_alloc | apply Kd.R_drewN | apply Kd.R_drew)); exact HO247.out))) (Kd.R_lt (by (with_reducible repeat (first | apply Kd.R_alloc | apply Kd.R_drewN | apply Kd.R_drew)); exact HO250.out))) (Kd.R_lt (by (with_reducible repeat (first | apply Kd.R_alloc | apply Kd.R_drewN | apply Kd.R_drew)); exact HO253.out))) (below_size (by repeat (first | (with_reducible first | exact HB.out | apply below_alloc | apply pw_below_drewN | apply below_drew1 | refine below_set ?_ GE241.out) | exact HB.out))))
       have n5_ := Aside0.mk (blk_below (g := gb241) (o := .cells #[.int .i64 a2_0, .int .i64 a2_1, .int .i64 a2_2, .int .i64 a2_3, .int .i64 a2_4, .int .i64 a2_5, .string a2_6] 67 (0, 0)) BK241.out hb)
       have n6_ := Aside0.mk (below_step HB.out hb)
       have z_HO256 := fun (h0_ : b 15 = true) (h1_ : b 23 = false) => (show Kd.R (Kd.int .u8) 5 w23 w.heap.size (fun _ => True) v255 y254 from Kd.R_mono (Kd.R_elder' (Q_HO256 h0_ h1_) (Kd.R_base ho0) hb) (fun _ h_ => by first | trivial | exact h_ | exact h_.1))
       have z_HO262 := fun (h0_ : b 19 = true) (h1_ : b 23 = false) => (show Kd.R (Kd.int .u8) 5 w23 w.heap.size (fun _ => True) v261 y260 from Kd.R_mono (Kd.R_elder' (Q_HO262 h0_ h1_) (Kd.R_base ho0) hb) (fun _ h_ => by first | trivial | exact h_ | exact h_.1))
       have z_HO265 := fun (h0_ : b 22 = true) => (show Kd.V (Kd.int .u8) 5 w23 w.heap.size (fun k_ => k_ ≠ gb241) v264 y263 from Kd.V_mono (Kd.V_elder' (Q_HO265 h0_) (Kd.R_base ho0) hb) (fun _ h_ => by first | trivial | exact h_ | exact h_.1))
       clear HO244
       clear HO247
       clear HO250
       clear HO253
       clear BK241
       clear HB
       have HO244 := n0_
       have HO247 := n1_
       have HO250 := n2_
       have HO253 := n3_
       have HO259 := n4_
       have BK241 := n5_
       have HB := n6_
       clear n0_ n1_ n2_ n3_ n4_ n5_ n6_
       (try clear hb)
       (try clear hb2)
       (try clear hk)
       (try clear hi)
       (try clear ho0)
       refine hK.out _ _ ⟨v243, v246, v249, v252, v255, v258, v261, v264, v267, v270, m25_, (by rw [ha.out]; exact putSel_upk 12 hb_ rfl rfl rfl), BK241.out, HB.out, fun _ _ => (by (with_reducible repeat (first | apply Kd.R_alloc | apply Kd.R_drewN | apply Kd.R_drew)); exact Kd.R_mono HO244.out (fun _ hk => by first | trivial | exact ⟨hk.1.1, ⟨hk.1.2.1, ⟨hk.1.2.2, hk.2⟩⟩⟩ | exact hk.2 | exact hk.1 | exact hk | exact hk.1.2 | exact hk.1.1 | exact hk.2.1 | exact hk.2.2)), fun _ _ => (by (with_reducible repeat (first | apply Kd.R_alloc | apply Kd.R_drewN | apply Kd.R_drew)); exact Kd.R_mono HO247.out (fun _ hk => by first | trivial | exact ⟨hk.1.1, ⟨hk.1.2.1, ⟨hk.1.2.2, hk.2⟩⟩⟩ | exact hk.2 | exact hk.1 | exact hk | exact hk.1.2 | exact hk.1.1 | exact hk.2.1 | exact hk.2.2)), fun _ _ => (by (with_reducible repeat (first | apply Kd.R_alloc | apply Kd.R_drewN | apply Kd.R_drew)); exact Kd.R_mono HO250.out (fun _ hk => by first | trivial | exact ⟨hk.1.1, ⟨hk.1.2.1, ⟨hk.1.2.2, hk.2⟩⟩⟩ | exact hk.2 | exact hk.1 | exact hk | exact hk.1.2 | exact hk.1.1 | exact hk.2.1 | exact hk.2.2)), fun _ _ => (by (with_reducible repeat (first | apply Kd.R_alloc | apply Kd.R_drewN | apply Kd.R_drew)); exact Kd.R_mono HO253.out (fun _ hk => by first | trivial | exact ⟨hk.1.1, ⟨hk.1.2.1, ⟨hk.1.2.2, hk.2⟩⟩⟩ | exact hk.2 | exact hk.1 | exact hk | exact hk.1.2 | exact hk.1.1 | exact hk.2.1 | exact hk.2.2)), z_HO256, fun _ _ => (by (with_reducible repeat (first | apply Kd.R_alloc | apply Kd.R_drewN | apply Kd.R_drew)); exact Kd.R_mono HO259.out (fun _ hk => by first | trivial | exact ⟨hk.1.1.1.2, ⟨hk.1.1.2, ⟨hk.1.2, hk.2⟩⟩⟩ | exact hk.2 | exact hk.1 | exact hk | exact hk.1.2 | exact hk.1.1 | exact hk.2.1 | exact hk.2.2)), z_HO262, z_HO265, fun h0_ => absurd ((hoff 23 (by kernel_rfl)).symm.trans h0_) (by decide), fun h0_ => absurd ((hoff 24 (by kernel_rfl)).symm.trans h0_) (by decide), fun h0_ => absurd ((hoff 25 (by kernel_rfl)).symm.trans h0_) (by decide)⟩
      refine steps_cons ?_ ?_
      ·rintro b a w' ⟨v243, v246, v249, v252, v255, v258, v261, v264, v267, v270, m25_, ha, Q_BK241, Q_HB, Q_HO244, Q_HO247, Q_HO250, Q_HO253, Q_HO256, Q_HO259, Q_HO262, Q_HO265, Q_HO268, Q_HO271, Q_X25_⟩ hb_ hon hoff
       refine ⟨_, rfl, fun K hK => ?_⟩
       replace ha := Aside0.mk ha
       have BK241 := Aside0.mk Q_BK241
       have HB := Aside0.mk Q_HB
       refine Kd.R_make_step (Kd.int .u8) _ 5 (by rfl) (N := 27) rfl 22 _ _ rfl 4 rfl rfl Try.underlying22 (.int .u8 0) 1 info5 rfl (by decide) (by omega) 0 (ok := fun _ => True) (okp := fun _ => True) rfl (fun _ hk => hk) trivial (by omega) (by omega) (Below.refl _ _) (Nat.le_refl _) ?_
       intro v261 w18 ho19 hb hg_ hnew_
       clear hg_ hnew_
       (first | rw [← Ny260.out] at ho19 | (simp only [Int.reduceToNat] at ho19; rw [← Ny260.out] at ho19))
       have n0_ := Aside0.mk (Kd.R_lower ho19 (below_size (by repeat (first | (with_reducible first | exact HB.out | apply below_alloc | apply pw_below_drewN | apply below_drew1 | refine below_set ?_ GE241.out) | exact HB.out))))
       have n1_ := Aside0.mk (blk_below (g := gb241) (o := .cells #[.int .i64 a2_0, .int .i64 a2_1, .int .i64 a2_2, .int .i64 a2_3, .int .i64 a2_4, .int .i64 a2_5, .string a2_6] 67 (0, 0)) BK241.out hb)
       have n2_ := Aside0.mk (below_step HB.out hb)
       have z_HO244 := fun (h0_ : b 2 = true) (h1_ : b 23 = false) => (show Kd.R (Kd.int .u8) 5 w18 w.heap.size (fun _ => True) v243 t242 from Kd.R_mono (Kd.R_elder' (Q_HO244 h0_ h1_) (Kd.R_base ho19) hb) (fun _ h_ => by first | trivial | exact h_ | exact h_.1))
       have z_HO247 := fun (h0_ : b 5 = true) (h1_ : b 23 = false) => (show Kd.R (Kd.int .u8) 5 w18 w.heap.size (fun _ => True) v246 t245 from Kd.R_mono (Kd.R_elder' (Q_HO247 h0_ h1_) (Kd.R_base ho19) hb) (fun _ h_ => by first | trivial | exact h_ | exact h_.1))
       have z_HO250 := fun (h0_ : b 8 = true) (h1_ : b 23 = false) => (show Kd.R (Kd.int .u8) 5 w18 w.heap.size (fun _ => True) v249 t248 from Kd.R_mono (Kd.R_elder' (Q_HO250 h0_ h1_) (Kd.R_base ho19) hb) (fun _ h_ => by first | trivial | exact h_ | exact h_.1))
       have z_HO253 := fun (h0_ : b 11 = true) (h1_ : b 23 = false) => (show Kd.R (Kd.int .u8) 5 w18 w.heap.size (fun _ => True) v252 t251 from Kd.R_mono (Kd.R_elder' (Q_HO253 h0_ h1_) (Kd.R_base ho19) hb) (fun _ h_ => by first | trivial | exact h_ | exact h_.1))
       have z_HO256 := fun (h0_ : b 15 = true) (h1_ : b 23 = false) => (show Kd.R (Kd.int .u8) 5 w18 w.heap.size (fun _ => True) v255 y254 from Kd.R_mono (Kd.R_elder' (Q_HO256 h0_ h1_) (Kd.R_base ho19) hb) (fun _ h_ => by first | trivial | exact h_ | exact h_.1))
       have z_HO259 := fun (h0_ : b 18 = true) (h1_ : b 23 = false) => (show Kd.R (Kd.int .u8) 5 w18 w.heap.size (fun _ => True) v258 t257 from Kd.R_mono (Kd.R_elder' (Q_HO259 h0_ h1_) (Kd.R_base ho19) hb) (fun _ h_ => by first | trivial | exact h_ | exact h_.1))
       have z_HO265 := fun (h0_ : b 22 = true) => (show Kd.V (Kd.int .u8) 5 w18 w.heap.size (fun k_ => k_ ≠ gb241) v264 y263 from Kd.V_mono (Kd.V_elder' (Q_HO265 h0_) (Kd.R_base ho19) hb) (fun _ h_ => by first | trivial | exact h_ | exact h_.1))
       clear BK241
       clear HB
       have HO262 := n0_
       have BK241 := n1_
       have HB := n2_
       clear n0_ n1_ n2_
       clear hb ho19
       refine hK.out _ _ ⟨v243, v246, v249, v252, v255, v258, v261, v264, v267, v270, m25_, (by rw [ha.out]; exact putSel_upk 13 hb_ rfl rfl rfl), BK241.out, HB.out, z_HO244, z_HO247, z_HO250, z_HO253, z_HO256, z_HO259, fun _ _ => (by (with_reducible repeat (first | apply Kd.R_alloc | apply Kd.R_drewN | apply Kd.R_drew)); first | exact HO262.out | exact Kd.R_mono HO262.out (fun _ h_ => by first | trivial | exact h_ | exact h_.1)), z_HO265, fun h0_ => absurd ((hoff 23 (by kernel_rfl)).symm.trans h0_) (by decide), fun h0_ => absurd ((hoff 24 (by kernel_rfl)).symm.trans h0_) (by decide), fun h0_ => absurd ((hoff 25 (by kernel_rfl)).symm.trans h0_) (by decide)⟩
      refine steps_cons ?_ ?_
      ·rintro b a w' ⟨v243, v246, v249, v252, v255, v258, v261, v264, v267, v270, m25_, ha, Q_BK241, Q_HB, Q_HO244, Q_HO247, Q_HO250, Q_HO253, Q_HO256, Q_HO259, Q_HO262, Q_HO265, Q_HO268, Q_HO271, Q_X25_⟩ hb_ hon hoff
       refine ⟨_, rfl, fun K hK => ?_⟩
       have e28 : a.tmps[28]? = some (.pointer (some ⟨gb241, 6, none⟩)) := by rw [ha]; exact (putSel_off rfl).trans rfl
       replace ha := Aside0.mk ha
       have BK241 := Aside0.mk Q_BK241
       have HB := Aside0.mk Q_HB
       have hc0_ : w'.cell? ⟨gb241, 0, none⟩ = some (.int .i64 a2_0) := (blk_cell BK241.out 0).trans rfl
       have hc1_ : w'.cell? ⟨gb241, 1, none⟩ = some (.int .i64 a2_1) := (blk_cell BK241.out 1).trans rfl
       have hc2_ : w'.cell? ⟨gb241, 2, none⟩ = some (.int .i64 a2_2) := (blk_cell BK241.out 2).trans rfl
       have hc3_ : w'.cell? ⟨gb241, 3, none⟩ = some (.int .i64 a2_3) := (blk_cell BK241.out 3).trans rfl
       have hc4_ : w'.cell? ⟨gb241, 4, none⟩ = some (.int .i64 a2_4) := (blk_cell BK241.out 4).trans rfl
       have hc5_ : w'.cell? ⟨gb241, 5, none⟩ = some (.int .i64 a2_5) := (blk_cell BK241.out 5).trans rfl
       have hc6_ : w'.cell? ⟨gb241, 6, none⟩ = some (.string a2_6) := (blk_cell BK241.out 6).trans rfl
       refine value_ (w1 := w') (v := .string a2_6) (by rfl) rfl ?_ ?_
       ·go_simp
        (try simp only [i64_w])
        try rfl
       refine hK.out _ _ ⟨v243, v246, v249, v252, v255, v258, v261, v264, v267, v270, m25_, (by rw [ha.out]; exact putSel_upk 14 hb_ rfl rfl rfl), Q_BK241, Q_HB, Q_HO244, Q_HO247, Q_HO250, Q_HO253, Q_HO256, Q_HO259, Q_HO262, fun h0_ => absurd ((hoff 22 (by kernel_rfl)).symm.trans h0_) (by decide), fun h0_ => absurd ((hoff 23 (by kernel_rfl)).symm.trans h0_) (by decide), fun h0_ => absurd ((hoff 24 (by kernel_rfl)).symm.trans h0_) (by decide), fun h0_ => absurd ((hoff 25 (by kernel_rfl)).symm.trans h0_) (by decide)⟩
      refine steps_cons ?_ ?_
      ·rintro b a w' ⟨v243, v246, v249, v252, v255, v258, v261, v264, v267, v270, m25_, ha, Q_BK241, Q_HB, Q_HO244, Q_HO247, Q_HO250, Q_HO253, Q_HO256, Q_HO259, Q_HO262, Q_HO265, Q_HO268, Q_HO271, Q_X25_⟩ hb_ hon hoff
       refine ⟨_, rfl, fun K hK => ?_⟩
       have e29 : a.tmps[29]? = some (.string a2_6) := by rw [ha]; exact putSel_on (e := (21, 29, .string a2_6)) 14 rfl rfl (hon 21 (by kernel_rfl)) rfl
       replace ha := Aside0.mk ha
       have BK241 := Aside0.mk Q_BK241
       have HB := Aside0.mk Q_HB
       refine Kd.V_make_step _ 5 (by rfl) (N' := 30) rfl 9 22 _ rfl a2_6 (by first | rfl | exact eval_tmp (by assumption)) Try.underlying9 Try.underlying22 Try.underlying5 (ok := fun k_ => w'.heap.size ≤ k_) (Nat.le_refl _) (of_decide_eq_true (by first | (with_reducible assumption) | assumption) : a2_6.size ≤ 140737488355328) (Below.refl _ _) (Nat.le_refl _) ?_
       intro v264 w18 ho19 hb hg_ hnew_
       clear hg_ hnew_
       (first | rw [← Ny263.out] at ho19 | (simp only [Int.reduceToNat] at ho19; rw [← Ny263.out] at ho19))
       have n0_ := Aside0.mk (Kd.V_lower (Kd.V_mono (ok' := fun k_ => k_ ≠ gb241) ho19 (fun k_ hk_ => (Kd.freshB (g := gb241) (o := .cells #[.int .i64 a2_0, .int .i64 a2_1, .int .i64 a2_2, .int .i64 a2_3, .int .i64 a2_4, .int .i64 a2_5, .string a2_6] 67 (0, 0)) (by (with_reducible repeat (first | refine blk_drewN ?_ _ | refine blk_drew ?_ | refine blk_alloc ?_ _)); exact BK241.out) k_ hk_))) (below_size (by repeat (first | (with_reducible first | exact HB.out | apply below_alloc | apply pw_below_drewN | apply below_drew1 | refine below_set ?_ GE241.out) | exact HB.out))))
       have n1_ := Aside0.mk (blk_below (g := gb241) (o := .cells #[.int .i64 a2_0, .int .i64 a2_1, .int .i64 a2_2, .int .i64 a2_3, .int .i64 a2_4, .int .i64 a2_5, .string a2_6] 67 (0, 0)) BK241.out hb)
       have n2_ := Aside0.mk (below_step HB.out hb)
       have z_HO244 := fun (h0_ : b 2 = true) (h1_ : b 23 = false) => (show Kd.R (Kd.int .u8) 5 w18 w.heap.size (fun _ => True) v243 t242 from Kd.R_mono (Kd.R_below (Q_HO244 h0_ h1_) hb) (fun _ h_ => by first | trivial | exact h_ | exact h_.1))
       have z_HO247 := fun (h0_ : b 5 = true) (h1_ : b 23 = false) => (show Kd.R (Kd.int .u8) 5 w18 w.heap.size (fun _ => True) v246 t245 from Kd.R_mono (Kd.R_below (Q_HO247 h0_ h1_) hb) (fun _ h_ => by first | trivial | exact h_ | exact h_.1))
       have z_HO250 := fun (h0_ : b 8 = true) (h1_ : b 23 = false) => (show Kd.R (Kd.int .u8) 5 w18 w.heap.size (fun _ => True) v249 t248 from Kd.R_mono (Kd.R_below (Q_HO250 h0_ h1_) hb) (fun _ h_ => by first | trivial | exact h_ | exact h_.1))
       have z_HO253 := fun (h0_ : b 11 = true) (h1_ : b 23 = false) => (show Kd.R (Kd.int .u8) 5 w18 w.heap.size (fun _ => True) v252 t251 from Kd.R_mono (Kd.R_below (Q_HO253 h0_ h1_) hb) (fun _ h_ => by first | trivial | exact h_ | exact h_.1))
       have z_HO256 := fun (h0_ : b 15 = true) (h1_ : b 23 = false) => (show Kd.R (Kd.int .u8) 5 w18 w.heap.size (fun _ => True) v255 y254 from Kd.R_mono (Kd.R_below (Q_HO256 h0_ h1_) hb) (fun _ h_ => by first | trivial | exact h_ | exact h_.1))
       have z_HO259 := fun (h0_ : b 18 = true) (h1_ : b 23 = false) => (show Kd.R (Kd.int .u8) 5 w18 w.heap.size (fun _ => True) v258 t257 from Kd.R_mono (Kd.R_below (Q_HO259 h0_ h1_) hb) (fun _ h_ => by first | trivial | exact h_ | exact h_.1))
       have z_HO262 := fun (h0_ : b 19 = true) (h1_ : b 23 = false) => (show Kd.R (Kd.int .u8) 5 w18 w.heap.size (fun _ => True) v261 y260 from Kd.R_mono (Kd.R_below (Q_HO262 h0_ h1_) hb) (fun _ h_ => by first | trivial | exact h_ | exact h_.1))
       clear BK241
       clear HB
       have HO265 := n0_
       have BK241 := n1_
       have HB := n2_
       clear n0_ n1_ n2_
       clear hb ho19
       refine hK.out _ _ ⟨v243, v246, v249, v252, v255, v258, v261, v264, v267, v270, m25_, (by rw [ha.out]; exact putSel_upk 15 hb_ rfl rfl rfl), BK241.out, HB.out, z_HO244, z_HO247, z_HO250, z_HO253, z_HO256, z_HO259, z_HO262, fun _ => HO265.out, fun h0_ => absurd ((hoff 23 (by kernel_rfl)).symm.trans h0_) (by decide), fun h0_ => absurd ((hoff 24 (by kernel_rfl)).symm.trans h0_) (by decide), fun h0_ => absurd ((hoff 25 (by kernel_rfl)).symm.trans h0_) (by decide)⟩
      refine steps_cons ?_ ?_
      ·rintro b a w' ⟨v243, v246, v249, v252, v255, v258, v261, v264, v267, v270, m25_, ha, Q_BK241, Q_HB, Q_HO244, Q_HO247, Q_HO250, Q_HO253, Q_HO256, Q_HO259, Q_HO262, Q_HO265, Q_HO268, Q_HO271, Q_X25_⟩ hb_ hon hoff
       refine ⟨_, rfl, fun K hK => ?_⟩
       have e10 : a.tmps[10]? = some (v243) := by rw [ha]; exact putSel_on (e := (2, 10, v243)) 1 rfl rfl (hon 2 (by kernel_rfl)) rfl
       have e13 : a.tmps[13]? = some (v246) := by rw [ha]; exact putSel_on (e := (5, 13, v246)) 3 rfl rfl (hon 5 (by kernel_rfl)) rfl
       have e16 : a.tmps[16]? = some (v249) := by rw [ha]; exact putSel_on (e := (8, 16, v249)) 5 rfl rfl (hon 8 (by kernel_rfl)) rfl
       have e19 : a.tmps[19]? = some (v252) := by rw [ha]; exact putSel_on (e := (11, 19, v252)) 7 rfl rfl (hon 11 (by kernel_rfl)) rfl
       have e23 : a.tmps[23]? = some (v255) := by rw [ha]; exact putSel_on (e := (15, 23, v255)) 10 rfl rfl (hon 15 (by kernel_rfl)) rfl
       have e26 : a.tmps[26]? = some (v258) := by rw [ha]; exact putSel_on (e := (18, 26, v258)) 12 rfl rfl (hon 18 (by kernel_rfl)) rfl
       have e27 : a.tmps[27]? = some (v261) := by rw [ha]; exact putSel_on (e := (19, 27, v261)) 13 rfl rfl (hon 19 (by kernel_rfl)) rfl
       have e30 : a.tmps[30]? = some (v264) := by rw [ha]; exact putSel_on (e := (22, 30, v264)) 15 rfl rfl (hon 22 (by kernel_rfl)) rfl
       replace ha := Aside0.mk ha
       have BK241 := Aside0.mk Q_BK241
       have HB := Aside0.mk Q_HB
       have HO244 := Aside0.mk (Q_HO244 (hon 2 (by kernel_rfl)) hb_)
       have HO247 := Aside0.mk (Q_HO247 (hon 5 (by kernel_rfl)) hb_)
       have HO250 := Aside0.mk (Q_HO250 (hon 8 (by kernel_rfl)) hb_)
       have HO253 := Aside0.mk (Q_HO253 (hon 11 (by kernel_rfl)) hb_)
       have HO256 := Aside0.mk (Q_HO256 (hon 15 (by kernel_rfl)) hb_)
       have HO259 := Aside0.mk (Q_HO259 (hon 18 (by kernel_rfl)) hb_)
       have HO262 := Aside0.mk (Q_HO262 (hon 19 (by kernel_rfl)) hb_)
       have HO265 := Aside0.mk (Q_HO265 (hon 22 (by kernel_rfl)))
       obtain ⟨Ao30, co30, eo30⟩ := Kd.R_slice HO244.out
       (first | subst eo30 | (injection eo30 with f1_ f2_ f3_; have f4_ := f1_.symm; have f5_ := f3_.symm; clear f1_ f2_ f3_; subst f4_; subst f5_))
       obtain ⟨Ao31, co31, eo31⟩ := Kd.R_slice HO247.out
       (first | subst eo31 | (injection eo31 with f1_ f2_ f3_; have f4_ := f1_.symm; have f5_ := f3_.symm; clear f1_ f2_ f3_; subst f4_; subst f5_))
       obtain ⟨Ao32, co32, eo32⟩ := Kd.R_slice HO250.out
       (first | subst eo32 | (injection eo32 with f1_ f2_ f3_; have f4_ := f1_.symm; have f5_ := f3_.symm; clear f1_ f2_ f3_; subst f4_; subst f5_))
       obtain ⟨Ao33, co33, eo33⟩ := Kd.R_slice HO253.out
       (first | subst eo33 | (injection eo33 with f1_ f2_ f3_; have f4_ := f1_.symm; have f5_ := f3_.symm; clear f1_ f2_ f3_; subst f4_; subst f5_))
       obtain ⟨Ao34, co34, eo34⟩ := Kd.R_slice HO256.out
       (first | subst eo34 | (injection eo34 with f1_ f2_ f3_; have f4_ := f1_.symm; have f5_ := f3_.symm; clear f1_ f2_ f3_; subst f4_; subst f5_))
       obtain ⟨Ao35, co35, eo35⟩ := Kd.R_slice HO259.out
       (first | subst eo35 | (injection eo35 with f1_ f2_ f3_; have f4_ := f1_.symm; have f5_ := f3_.symm; clear f1_ f2_ f3_; subst f4_; subst f5_))
       obtain ⟨Ao36, co36, eo36⟩ := Kd.R_slice HO262.out
       (first | subst eo36 | (injection eo36 with f1_ f2_ f3_; have f4_ := f1_.symm; have f5_ := f3_.symm; clear f1_ f2_ f3_; subst f4_; subst f5_))
       obtain ⟨Ao37, co37, eo37⟩ := Kd.V_slice HO265.out
       (first | subst eo37 | (injection eo37 with f1_ f2_ f3_; have f4_ := f1_.symm; have f5_ := f3_.symm; clear f1_ f2_ f3_; subst f4_; subst f5_))
       refine Kd.N_lit_step (Kd.slice 5 (Kd.int .u8)) _ 22 ?hg (N' := 31) ?hd (xs := ([t242, t245, t248, t251, y254, t257, y260, y263] : List (List Int))) (inner := [.slice Ao30 t242.length co30, .slice Ao31 t245.length co31, .slice Ao32 t248.length co32, .slice Ao33 t251.length co33, .slice Ao34 y254.length co34, .slice Ao35 t257.length co35, .slice Ao36 y260.length co36, .slice Ao37 y263.length co37]) (ok := (fun k_ => k_ ≠ gb241)) (okp := (fun k_ => k_ ≠ gb241)) ?hr ?hp (fun _ hk => hk) ((show ∀ k_, w'.heap.size ≤ k_ → (fun k_ => k_ ≠ gb241) k_ from fun k_ hk => Kd.freshB (g := gb241) (o := .cells #[.int .i64 a2_0, .int .i64 a2_1, .int .i64 a2_2, .int .i64 a2_3, .int .i64 a2_4, .int .i64 a2_5, .string a2_6] 67 (0, 0)) (by (with_reducible repeat (first | refine blk_drewN ?_ _ | refine blk_drew ?_ | refine blk_alloc ?_ _)); exact BK241.out) k_ hk) _ (Nat.le_refl _)) (Below.refl _ _) (Nat.le_refl _) (by simp) ?_; (case hd => rfl); (case hg => rfl); (case hr => first | (go_simp; done) | (go_simp; rfl)); (case hp => exact (Reps.one (show Kd.FK (Kd.slice 5 (Kd.int .u8)) _ _ t242 [.slice Ao30 t242.length co30] from (Kd.FK_slice_mk (Kd.R_reads' (Kd.R_mono (ok' := (fun k_ => k_ ≠ gb241)) (Kd.R_types (HO244.out) BK241.out (by decide)) (fun k_ hk => by first | trivial | exact hk.2 | exact hk.2 | exact hk.1 | exact hk | exact hk.1.2 | exact hk.1.1 | exact hk.2.1 | exact hk.2.2))).2.1 (Kd.R_F (Kd.R_mono (ok' := (fun k_ => k_ ≠ gb241)) (Kd.R_types (HO244.out) BK241.out (by decide)) (fun k_ hk => by first | trivial | exact hk.2 | exact hk.2 | exact hk.1 | exact hk | exact hk.1.2 | exact hk.1.1 | exact hk.2.1 | exact hk.2.2))))) (Reps.one (show Kd.FK (Kd.slice 5 (Kd.int .u8)) _ _ t245 [.slice Ao31 t245.length co31] from (Kd.FK_slice_mk (Kd.R_reads' (Kd.R_mono (ok' := (fun k_ => k_ ≠ gb241)) (Kd.R_types (HO247.out) BK241.out (by decide)) (fun k_ hk => by first | trivial | exact hk.2 | exact hk.2 | exact hk.1 | exact hk | exact hk.1.2 | exact hk.1.1 | exact hk.2.1 | exact hk.2.2))).2.1 (Kd.R_F (Kd.R_mono (ok' := (fun k_ => k_ ≠ gb241)) (Kd.R_types (HO247.out) BK241.out (by decide)) (fun k_ hk => by first | trivial | exact hk.2 | exact hk.2 | exact hk.1 | exact hk | exact hk.1.2 | exact hk.1.1 | exact hk.2.1 | exact hk.2.2))))) (Reps.one (show Kd.FK (Kd.slice 5 (Kd.int .u8)) _ _ t248 [.slice Ao32 t248.length co32] from (Kd.FK_slice_mk (Kd.R_reads' (Kd.R_mono (ok' := (fun k_ => k_ ≠ gb241)) (Kd.R_types (HO250.out) BK241.out (by decide)) (fun k_ hk => by first | trivial | exact hk.2 | exact hk.2 | exact hk.1 | exact hk | exact hk.1.2 | exact hk.1.1 | exact hk.2.1 | exact hk.2.2))).2.1 (Kd.R_F (Kd.R_mono (ok' := (fun k_ => k_ ≠ gb241)) (Kd.R_types (HO250.out) BK241.out (by decide)) (fun k_ hk => by first | trivial | exact hk.2 | exact hk.2 | exact hk.1 | exact hk | exact hk.1.2 | exact hk.1.1 | exact hk.2.1 | exact hk.2.2))))) (Reps.one (show Kd.FK (Kd.slice 5 (Kd.int .u8)) _ _ t251 [.slice Ao33 t251.length co33] from (Kd.FK_slice_mk (Kd.R_reads' (Kd.R_mono (ok' := (fun k_ => k_ ≠ gb241)) (Kd.R_types (HO253.out) BK241.out (by decide)) (fun k_ hk => by first | trivial | exact hk.2 | exact hk.2 | exact hk.1 | exact hk | exact hk.1.2 | exact hk.1.1 | exact hk.2.1 | exact hk.2.2))).2.1 (Kd.R_F (Kd.R_mono (ok' := (fun k_ => k_ ≠ gb241)) (Kd.R_types (HO253.out) BK241.out (by decide)) (fun k_ hk => by first | trivial | exact hk.2 | exact hk.2 | exact hk.1 | exact hk | exact hk.1.2 | exact hk.1.1 | exact hk.2.1 | exact hk.2.2))))) (Reps.one (show Kd.FK (Kd.slice 5 (Kd.int .u8)) _ _ y254 [.slice Ao34 y254.length co34] from (Kd.FK_slice_mk (Kd.R_reads' (Kd.R_mono (ok' := (fun k_ => k_ ≠ gb241)) (Kd.R_types (HO256.out) BK241.out (by decide)) (fun k_ hk => by first | trivial | exact hk.2 | exact hk.2 | exact hk.1 | exact hk | exact hk.1.2 | exact hk.1.1 | exact hk.2.1 | exact hk.2.2))).2.1 (Kd.R_F (Kd.R_mono (ok' := (fun k_ => k_ ≠ gb241)) (Kd.R_types (HO256.out) BK241.out (by decide)) (fun k_ hk => by first | trivial | exact hk.2 | exact hk.2 | exact hk.1 | exact hk | exact hk.1.2 | exact hk.1.1 | exact hk.2.1 | exact hk.2.2))))) (Reps.one (show Kd.FK (Kd.slice 5 (Kd.int .u8)) _ _ t257 [.slice Ao35 t257.length co35] from (Kd.FK_slice_mk (Kd.R_reads' (Kd.R_mono (ok' := (fun k_ => k_ ≠ gb241)) (Kd.R_types (HO259.out) BK241.out (by decide)) (fun k_ hk => by first | trivial | exact hk.2 | exact hk.2 | exact hk.1 | exact hk | exact hk.1.2 | exact hk.1.1 | exact hk.2.1 | exact hk.2.2))).2.1 (Kd.R_F (Kd.R_mono (ok' := (fun k_ => k_ ≠ gb241)) (Kd.R_types (HO259.out) BK241.out (by decide)) (fun k_ hk => by first | trivial | exact hk.2 | exact hk.2 | exact hk.1 | exact hk | exact hk.1.2 | exact hk.1.1 | exact hk.2.1 | exact hk.2.2))))) (Reps.one (show Kd.FK (Kd.slice 5 (Kd.int .u8)) _ _ y260 [.slice Ao36 y260.length co36] from (Kd.FK_slice_mk (Kd.R_reads' (Kd.R_mono (ok' := (fun k_ => k_ ≠ gb241)) (Kd.R_types (HO262.out) BK241.out (by decide)) (fun k_ hk => by first | trivial | exact hk.2 | exact hk.2 | exact hk.1 | exact hk | exact hk.1.2 | exact hk.1.1 | exact hk.2.1 | exact hk.2.2))).2.1 (Kd.R_F (Kd.R_mono (ok' := (fun k_ => k_ ≠ gb241)) (Kd.R_types (HO262.out) BK241.out (by decide)) (fun k_ hk => by first | trivial | exact hk.2 | exact hk.2 | exact hk.1 | exact hk | exact hk.1.2 | exact hk.1.1 | exact hk.2.1 | exact hk.2.2))))) (Reps.one (show Kd.FK (Kd.slice 5 (Kd.int .u8)) _ _ y263 [.slice Ao37 y263.length co37] from (Kd.FK_slice_mk (Kd.V_reads' (Kd.V_mono (ok' := (fun k_ => k_ ≠ gb241)) (HO265.out) (fun k_ hk => by first | trivial | exact hk.2.2.2.2.2.2.2 | exact hk | exact hk.2 | exact hk.1 | exact hk.1.2 | exact hk.1.1 | exact hk.2.1 | exact hk.2.2))).2.1 (Kd.V_F (Kd.V_mono (ok' := (fun k_ => k_ ≠ gb241)) (HO265.out) (fun k_ hk => by first | trivial | exact hk.2.2.2.2.2.2.2 | exact hk | exact hk.2 | exact hk.1 | exact hk.1.2 | exact hk.1.1 | exact hk.2.1 | exact hk.2.2))))) (Reps.none _ _))))))))))
       intro v267 w38 ho39 hb hg_ hnew_
       clear hg_ hnew_
       (first | rw [← Ny266.out] at ho39 | (simp only [Int.reduceToNat] at ho39; rw [← Ny266.out] at ho39))
       have n0_ := Aside0.mk (Kd.V_elder' HO265.out (Kd.N_base ho39) hb)
       have n1_ := Aside0.mk (Kd.N_lower ho39 (below_size (by repeat (first | (with_reducible first | exact HB.out | apply below_alloc | apply pw_below_drewN | apply below_drew1 | refine below_set ?_ GE241.out) | exact HB.out))))
       have n2_ := Aside0.mk (blk_below (g := gb241) (o := .cells #[.int .i64 a2_0, .int .i64 a2_1, .int .i64 a2_2, .int .i64 a2_3, .int .i64 a2_4, .int .i64 a2_5, .string a2_6] 67 (0, 0)) BK241.out hb)
       have n3_ := Aside0.mk (below_step HB.out hb)
       clear HO265
       clear BK241
       clear HB
       clear HO244
       clear HO247
       clear HO250
       clear HO253
       clear HO256
       clear HO259
       clear HO262
       have HO265 := n0_
       have HO268 := n1_
       have BK241 := n2_
       have HB := n3_
       clear n0_ n1_ n2_ n3_
       clear hb ho39
       refine hK.out _ _ ⟨.slice Ao30 t242.length co30, .slice Ao31 t245.length co31, .slice Ao32 t248.length co32, .slice Ao33 t251.length co33, .slice Ao34 y254.length co34, .slice Ao35 t257.length co35, .slice Ao36 y260.length co36, .slice Ao37 y263.length co37, v267, v270, m25_, (by rw [ha.out]; exact putSel_upk 16 hb_ rfl rfl rfl), BK241.out, HB.out, fun _ h1_ => absurd ((up_self b 23).symm.trans h1_) (by decide), fun _ h1_ => absurd ((up_self b 23).symm.trans h1_) (by decide), fun _ h1_ => absurd ((up_self b 23).symm.trans h1_) (by decide), fun _ h1_ => absurd ((up_self b 23).symm.trans h1_) (by decide), fun _ h1_ => absurd ((up_self b 23).symm.trans h1_) (by decide), fun _ h1_ => absurd ((up_self b 23).symm.trans h1_) (by decide), fun _ h1_ => absurd ((up_self b 23).symm.trans h1_) (by decide), fun _ => (by (with_reducible repeat (first | apply Kd.V_alloc | apply Kd.V_drewN | apply Kd.V_drew)); exact Kd.V_mono HO265.out (fun _ hk => by first | trivial | exact ⟨hk.2, hk.1.2.2.2.2.2.2.2⟩ | exact hk.2 | exact hk.1 | exact hk | exact hk.1.2 | exact hk.1.1 | exact hk.2.1 | exact hk.2.2)), fun _ => HO268.out, fun h0_ => absurd ((hoff 24 (by kernel_rfl)).symm.trans h0_) (by decide), fun h0_ => absurd ((hoff 25 (by kernel_rfl)).symm.trans h0_) (by decide)⟩
      refine steps_cons ?_ ?_
      ·rintro b a w' ⟨v243, v246, v249, v252, v255, v258, v261, v264, v267, v270, m25_, ha, Q_BK241, Q_HB, Q_HO244, Q_HO247, Q_HO250, Q_HO253, Q_HO256, Q_HO259, Q_HO262, Q_HO265, Q_HO268, Q_HO271, Q_X25_⟩ hb_ hon hoff
       refine ⟨_, rfl, fun K hK => ?_⟩
       have e31 : a.tmps[31]? = some (v267) := by rw [ha]; exact putSel_on (e := (23, 31, v267)) 16 rfl rfl (hon 23 (by kernel_rfl)) rfl
       replace ha := Aside0.mk ha
       have BK241 := Aside0.mk Q_BK241
       have HB := Aside0.mk Q_HB
       have HO265 := Aside0.mk (Q_HO265 (hon 22 (by kernel_rfl)))
       have HO268 := Aside0.mk (Q_HO268 (hon 23 (by kernel_rfl)))
       obtain ⟨Ao40, co40, eo40⟩ := Kd.N_slice HO268.out
       (first | subst eo40 | (injection eo40 with f1_ f2_ f3_; have f4_ := f1_.symm; have f5_ := f3_.symm; clear f1_ f2_ f3_; subst f4_; subst f5_))
       refine goes_ Try.func74 (by kernel_rfl) rfl #[.slice Ao40 y266.length co40] (by rfl) rfl rfl (by first | (simp only [List.map_toArray, List.map_cons, List.map_nil, Act.eval, Array.getD_eq_getD_getElem?, Option.getD_some, e31]; done) | (simp only [List.map_toArray, List.map_cons, List.map_nil, Act.eval, Array.getD_eq_getD_getElem?, Option.getD_some, e31]; rfl)) ?_
       with_reducible refine (slices_Concat_byte_byte.calls k _ _ y266 t269 _ ?side1 ?side2 A11.out).mono ?_
       (case side1 => repeat (first | exact (Kd.N_reads' HO268.out).2.2 | (with_reducible refine Kd.C_alloc ?_ _) | (with_reducible refine Kd.C_drewN ?_ _) | (with_reducible refine Kd.C_drew ?_)))
       (case side2 => exact (Kd.N_reads' HO268.out).2.1)
       rintro e w41 ⟨v270, rfl, ho0, hb⟩
       refine ⟨_, rfl, ?_⟩
       have n0_ := Aside0.mk (Kd.V_elder' HO265.out (Kd.R_base ho0) hb)
       have n1_ := Aside0.mk (Kd.N_elder' HO268.out (Kd.R_base ho0) hb)
       have n2_ := Aside0.mk (Kd.R_lower ho0 (below_size (by repeat (first | (with_reducible first | exact HB.out | apply below_alloc | apply pw_below_drewN | apply below_drew1 | refine below_set ?_ GE241.out) | exact HB.out))))
       have n3_ := Aside0.mk (blk_below (g := gb241) (o := .cells #[.int .i64 a2_0, .int .i64 a2_1, .int .i64 a2_2, .int .i64 a2_3, .int .i64 a2_4, .int .i64 a2_5, .string a2_6] 67 (0, 0)) BK241.out hb)
       have n4_ := Aside0.mk (below_step HB.out hb)
       clear HO265
       clear HO268
       clear BK241
       clear HB
       have HO265 := n0_
       have HO268 := n1_
       have HO271 := n2_
       have BK241 := n3_
       have HB := n4_
       clear n0_ n1_ n2_ n3_ n4_
       (try clear hb)
       (try clear hb2)
       (try clear hk)
       (try clear hi)
       (try clear ho0)
       refine hK.out _ _ ⟨v243, v246, v249, v252, v255, v258, v261, v264, .slice Ao40 y266.length co40, v270, m25_, (by rw [ha.out]; exact putSel_upk 17 hb_ rfl rfl rfl), BK241.out, HB.out, fun _ h1_ => absurd ((hon 23 (by kernel_rfl)).symm.trans h1_) (by decide), fun _ h1_ => absurd ((hon 23 (by kernel_rfl)).symm.trans h1_) (by decide), fun _ h1_ => absurd ((hon 23 (by kernel_rfl)).symm.trans h1_) (by decide), fun _ h1_ => absurd ((hon 23 (by kernel_rfl)).symm.trans h1_) (by decide), fun _ h1_ => absurd ((hon 23 (by kernel_rfl)).symm.trans h1_) (by decide), fun _ h1_ => absurd ((hon 23 (by kernel_rfl)).symm.trans h1_) (by decide), fun _ h1_ => absurd ((hon 23 (by kernel_rfl)).symm.trans h1_) (by decide), fun _ => (by (with_reducible repeat (first | apply Kd.V_alloc | apply Kd.V_drewN | apply Kd.V_drew)); exact Kd.V_mono HO265.out (fun _ hk => by first | trivial | exact ⟨hk.1.1, ⟨hk.2, hk.1.2⟩⟩ | exact hk.2 | exact hk.1 | exact hk | exact hk.1.2 | exact hk.1.1 | exact hk.2.1 | exact hk.2.2)), fun _ => (by (with_reducible repeat (first | apply Kd.N_alloc | apply Kd.N_drewN | apply Kd.N_drew)); exact Kd.N_mono HO268.out (fun _ hk => by first | trivial | exact ⟨hk.2, hk.1⟩ | exact hk.2 | exact hk.1 | exact hk | exact hk.1.2 | exact hk.1.1 | exact hk.2.1 | exact hk.2.2)), fun _ => (by (with_reducible repeat (first | apply Kd.R_alloc | apply Kd.R_drewN | apply Kd.R_drew)); first | exact HO271.out | exact Kd.R_mono HO271.out (fun _ h_ => by first | trivial | exact h_ | exact h_.1)), fun h0_ => absurd ((hoff 25 (by kernel_rfl)).symm.trans h0_) (by decide)⟩
      refine steps_cons ?_ ?_
      ·rintro b a w' ⟨v243, v246, v249, v252, v255, v258, v261, v264, v267, v270, m25_, ha, Q_BK241, Q_HB, Q_HO244, Q_HO247, Q_HO250, Q_HO253, Q_HO256, Q_HO259, Q_HO262, Q_HO265, Q_HO268, Q_HO271, Q_X25_⟩ hb_ hon hoff
       refine ⟨_, rfl, fun K hK => ?_⟩
       have e32 : a.tmps[32]? = some (v270) := by rw [ha]; exact putSel_on (e := (24, 32, v270)) 17 rfl rfl (hon 24 (by kernel_rfl)) rfl
       replace ha := Aside0.mk ha
       have BK241 := Aside0.mk Q_BK241
       have HB := Aside0.mk Q_HB
       have HO265 := Aside0.mk (Q_HO265 (hon 22 (by kernel_rfl)))
       have HO268 := Aside0.mk (Q_HO268 (hon 23 (by kernel_rfl)))
       have HO271 := Aside0.mk (Q_HO271 (hon 24 (by kernel_rfl)))
       refine value_ (w1 := w') (v := v270) (by rfl) rfl ?_ ?_
       ·go_simp
        (try simp only [i64_w])
        try rfl
       refine hK.out _ _ ⟨v243, v246, v249, v252, v255, v258, v261, v264, v267, v270, (v270), (by rw [ha.out]; exact putSel_upk 18 hb_ rfl rfl rfl), Q_BK241, Q_HB, fun _ h1_ => absurd ((hon 23 (by kernel_rfl)).symm.trans h1_) (by decide), fun _ h1_ => absurd ((hon 23 (by kernel_rfl)).symm.trans h1_) (by decide), fun _ h1_ => absurd ((hon 23 (by kernel_rfl)).symm.trans h1_) (by decide), fun _ h1_ => absurd ((hon 23 (by kernel_rfl)).symm.trans h1_) (by decide), fun _ h1_ => absurd ((hon 23 (by kernel_rfl)).symm.trans h1_) (by decide), fun _ h1_ => absurd ((hon 23 (by kernel_rfl)).symm.trans h1_) (by decide), fun _ h1_ => absurd ((hon 23 (by kernel_rfl)).symm.trans h1_) (by decide), Q_HO265, Q_HO268, Q_HO271, fun _ => rfl⟩
      exact steps_nil
     rintro b a w41 hall ⟨v243, v246, v249, v252, v255, v258, v261, v264, v267, v270, m25_, ha, Q_BK241, Q_HB, Q_HO244, Q_HO247, Q_HO250, Q_HO253, Q_HO256, Q_HO259, Q_HO262, Q_HO265, Q_HO268, Q_HO271, Q_X25_⟩
     clear BK241 HB
     have hb1_ := hall 1 (by kernel_rfl)
     have hb2_ := hall 2 (by kernel_rfl)
     have hb4_ := hall 4 (by kernel_rfl)
     have hb5_ := hall 5 (by kernel_rfl)
     have hb7_ := hall 7 (by kernel_rfl)
     have hb8_ := hall 8 (by kernel_rfl)
     have hb10_ := hall 10 (by kernel_rfl)
     have hb11_ := hall 11 (by kernel_rfl)
     have hb13_ := hall 13 (by kernel_rfl)
     have hb14_ := hall 14 (by kernel_rfl)
     have hb15_ := hall 15 (by kernel_rfl)
     have hb17_ := hall 17 (by kernel_rfl)
     have hb18_ := hall 18 (by kernel_rfl)
     have hb19_ := hall 19 (by kernel_rfl)
     have hb21_ := hall 21 (by kernel_rfl)
     have hb22_ := hall 22 (by kernel_rfl)
     have hb23_ := hall 23 (by kernel_rfl)
     have hb24_ := hall 24 (by kernel_rfl)
     have hb25_ := hall 25 (by kernel_rfl)
     subst ha
     obtain rfl := Q_X25_ hb25_
     simp only [putSel, hb1_, hb2_, hb4_, hb5_, hb7_, hb8_, hb10_, hb11_, hb13_, hb14_, hb15_, hb17_, hb18_, hb19_, hb21_, hb22_, hb23_, hb24_, hb25_, if_true, Act.put, List.setIfInBounds_toArray, List.set_cons_zero, List.set_cons_succ]
     have BK241 := Aside0.mk Q_BK241
     clear Q_BK241
     have HB := Aside0.mk Q_HB
     clear Q_HB
     clear Q_HO244
     clear Q_HO247
     clear Q_HO250
     clear Q_HO253
     clear Q_HO256
     clear Q_HO259
     clear Q_HO262
     have HO265 := Aside0.mk (Q_HO265 hb22_)
     clear Q_HO265
     have HO268 := Aside0.mk (Q_HO268 hb23_)
     clear Q_HO268
     have HO271 := Aside0.mk (Q_HO271 hb24_)
     clear Q_HO271
     clear hall hb1_ hb2_ hb4_ hb5_ hb7_ hb8_ hb10_ hb11_ hb13_ hb14_ hb15_ hb17_ hb18_ hb19_ hb21_ hb22_ hb23_ hb24_ hb25_
     try go_wp2
     have n0_ := Aside0.mk (Kd.V_drew HO265.out)
     have n1_ := Aside0.mk (Kd.N_drew HO268.out)
     have n2_ := Aside0.mk (Kd.R_drew HO271.out)
     have n3_ := Aside0.mk (blk_drew BK241.out)
     have n4_ := Aside0.mk (below_drew1 HB.out)
     clear HO265
     clear HO268
     clear HO271
     clear BK241
     clear HB
     have HO265 := n0_
     have HO268 := n1_
     have HO271 := n2_
     have BK241 := n3_
     have HB := n4_
     clear n0_ n1_ n2_ n3_ n4_
     obtain ⟨Ao44, co44, eo44⟩ := Kd.R_slice HO271.out
     (first | subst eo44 | (injection eo44 with f1_ f2_ f3_; have f4_ := f1_.symm; have f5_ := f3_.symm; clear f1_ f2_ f3_; subst f4_; subst f5_))
     obtain ⟨go45, co45, eo45, gb45, gl45, cl45, HG45⟩ := Kd.R_form HO271.out (by have hl_ : (16 : Int) ≤ ((t269.length : Int) : Int) := of_decide_eq_true (by first | (with_reducible assumption) | assumption); omega)
     (first | cases eo45 | (injection eo45 with ea_ en_ ec_; (first | subst ea_ | (injection ea_ with ea_; subst ea_)); subst ec_; clear en_))
     have GB45 := Aside0.mk gb45
     have GG45 := Aside0.mk HG45
     clear gb45 gl45 HG45
     have q43 : (16 : Int) ≤ ((t269.length : Int) : Int) := of_decide_eq_true (by first | (with_reducible assumption) | assumption)
     obtain ⟨i043, hi043, _, hsz43, _⟩ := info_parts info5
     have hroom43 : t269.length ≤ co44 := (Kd.R_reads' HO271.out).2.1
     have hC43 : Kd.F (Kd.int .u8) _ _ (some ⟨go45, 0, none⟩) t269.length t269 := (Kd.V_at (base := w.heap.size) (Kd.R_V (Kd.R_types (Kd.R_apart' (HO271.out) (Kd.N_typed HO268.out) (by decide)) BK241.out (by decide)))).2.2
     have hcut43 := cut_from (P := Try.prog) 22 5 .i64 Try.underlying22 hi043 1 hsz43 (some ⟨go45, 0, none⟩) t269.length co44 16 (by omega) q43
     have hr43 := Kd.F_cut (m := (16 : Int).toNat) (c := co44) hC43 (by omega) hroom43
     obtain ⟨A43, hA43⟩ : ∃ A1, A1 = (if co44 = (16 : Int).toNat then (some ⟨go45, 0, none⟩) else ((some ⟨go45, 0, none⟩) : Option Addr).map (·.add ((16 : Int).toNat * 1))) := ⟨_, rfl⟩
     obtain ⟨c43, hc43⟩ : ∃ c1, c1 = co44 - (16 : Int).toNat := ⟨_, rfl⟩
     have hy43 : y272.length = t269.length - (16 : Int).toNat := (by rw [Ny272.out, List.length_drop] <;> omega)
     rw [show (t269).drop (16 : Int).toNat = y272 from Ny272.out.symm] at hr43
     replace hr43 : Kd.F (Kd.int .u8) _ _ A43 y272.length y272 := (by rw [hA43]; exact hr43)
     rw [← hy43, ← hA43, ← hc43] at hcut43
     have HO276 := Aside0.mk (show Kd.V (Kd.int .u8) 5 _ w.heap.size _ (.slice A43 y272.length c43) y272 from Kd.V_mk (by rw [hy43, hc43]; exact Nat.sub_le_sub_right hroom43 _) hr43)
     have HC276 := Aside0.mk (show y272.length ≤ c43 from by rw [hy43, hc43]; exact Nat.sub_le_sub_right hroom43 _)
     clear hr43 hC43 hroom43 hi043 hsz43 hc43
     have KY43 := Aside0.mk hy43
     have KA43 := Aside0.mk hA43
     clear hy43 hA43
     replace q43 := eq_true q43
     refine start_ (n := 8) (S := fun w' => True) (ds := []) #[false, false, false, false, false, false, false, false] (by kernel_rfl) rfl rfl trivial (fun hHeld => ?_); refine with_tabW impl_segmentBytes.tab2 impl_segmentBytes.bits2 (fun HT_ HW_ => ?_)
     generalize w41.drew = w42 at HO265 HO268 HO271 BK241 HB GG45 HO276 hHeld ⊢
     refine pure_ (i := 0) (N := some 33) (v := ?_) (a' := ?_) #[true, false, false, false, false, false, false, false] rfl rfl (any_of HT_.out (by kernel_rfl)) (fun _ _ _ h => h) (Or.inl ⟨by rfl, ?_⟩) ?_ ?_
     rotate_left
     ·intro w'
      go_simp
      with_reducible rfl
     rotate_left
     ·simp only [Act.put, List.setIfInBounds_toArray, List.set_cons_zero, List.set_cons_succ, i64_w, i32_w]
      rfl
     refine pure_ (i := 1) (N := some 34) (v := ?_) (a' := ?_) #[true, true, false, false, false, false, false, false] rfl rfl (any_of HT_.out (by kernel_rfl)) (fun _ _ _ h => h) (Or.inl ⟨by rfl, ?_⟩) ?_ ?_
     rotate_left
     ·intro w'
      go_simp
      with_reducible rfl
     rotate_left
     ·simp only [Act.put, List.setIfInBounds_toArray, List.set_cons_zero, List.set_cons_succ, i64_w, i32_w]
      rfl
     refine pure_ (i := 2) (N := some 35) (v := ?_) (a' := ?_) #[true, true, true, false, false, false, false, false] rfl rfl (any_of HT_.out (by kernel_rfl)) (fun _ _ _ h => h) (Or.inl ⟨by rfl, ?_⟩) ?_ ?_
     rotate_left
     ·intro w'
      go_simp
      with_reducible rfl
     rotate_left
     ·simp only [Act.put, List.setIfInBounds_toArray, List.set_cons_zero, List.set_cons_succ, i64_w, i32_w]
      rfl
     refine pure_ (i := 3) (N := some 36) (v := ?_) (a' := ?_) #[true, true, true, true, false, false, false, false] rfl rfl (any_of HT_.out (by kernel_rfl)) (fun _ _ _ h => h) (Or.inl ⟨by rfl, ?_⟩) ?_ ?_
     rotate_left
     ·intro w'
      go_simp
      with_reducible rfl
     rotate_left
     ·simp only [Act.put, List.setIfInBounds_toArray, List.set_cons_zero, List.set_cons_succ, i64_w, i32_w]
      rfl
     refine pure_ (i := 4) (N := some 37) (v := ?_) (a' := ?_) #[true, true, true, true, true, false, false, false] rfl rfl (any_of HT_.out (by kernel_rfl)) (fun _ _ _ h => h) (Or.inl ⟨by rfl, ?_⟩) ?_ ?_
     rotate_left
     ·intro w'
      go_simp
      with_reducible rfl
     rotate_left
     ·simp only [Act.put, List.setIfInBounds_toArray, List.set_cons_zero, List.set_cons_succ, i64_w, i32_w]
      rfl
     refine one_ (i := 5) (N := some 38) #[true, true, true, true, true, true, false, false] rfl rfl (one_of HT_.out (by kernel_rfl)) (by decide) (fun K hK => ?_)
     refine goes_ Try.func104 (by kernel_rfl) rfl #[.int .i64 a0, .int .i64 a1, .int .i64 6, .slice (some ⟨go45, 0, none⟩) t269.length co44] (by rfl) rfl rfl (by (try simp only [List.map_toArray, List.map_cons, List.map_nil]); first | done | rfl | (simp only [List.length_drop, List.length_take]; rfl)) ?_
     with_reducible refine (impl_withEnds.calls k a0 a1 6 (fun k_ => some k_ = (.slice (some ⟨go45, 0, none⟩) t269.length co44 : Value).ownBlock) _ _ t269 t277 _ ?side1 A13.out).mono ?_
     (case side1 => exact Kd.R_V (Kd.R_tight rfl (Kd.R_types (Kd.R_apart' (HO271.out) (Kd.N_typed HO268.out) (by decide)) BK241.out (by decide))))
     rintro e w46 ⟨rfl, hb⟩
     refine ⟨_, rfl, ?_⟩
     have n0_ := Aside0.mk (Kd.V_below HO265.out hb)
     have n1_ := Aside0.mk (Kd.N_below HO268.out hb)
     have n2_ := Aside0.mk (Kd.R_below HO271.out hb)
     have n3_ := Aside0.mk (Kd.V_below HO276.out hb)
     have n4_ := Aside0.mk (blk_below (g := gb241) (o := .cells #[.int .i64 a2_0, .int .i64 a2_1, .int .i64 a2_2, .int .i64 a2_3, .int .i64 a2_4, .int .i64 a2_5, .string a2_6] 67 (0, 0)) BK241.out hb)
     have n5_ := Aside0.mk (below_step HB.out hb)
     clear HO265
     clear HO268
     clear HO271
     clear HO276
     clear BK241
     clear HB
     have HO265 := n0_
     have HO268 := n1_
     have HO271 := n2_
     have HO276 := n3_
     have BK241 := n4_
     have HB := n5_
     clear n0_ n1_ n2_ n3_ n4_ n5_
     (try clear hb)
     (try clear hb2)
     (try clear hk)
     (try clear hi)
     refine hK.out _ _ trivial (fun hHeld => ?_)
     clear hK K
     refine norm_ (a' := ?_) ?_ ?_
     rotate_left
     ·show Act.put _ (some 38) _ = _
      simp only [Act.put, List.setIfInBounds_toArray, List.set_cons_zero, List.set_cons_succ, i64_w, i32_w]
      rfl
     refine one_ (i := 6) (N := some 39) #[true, true, true, true, true, true, true, false] rfl rfl (one_of HT_.out (by kernel_rfl)) (by decide) (fun K hK => ?_)
     refine goes_ Try.func62 (by kernel_rfl) rfl #[.int .i64 t277, .int .i64 2] (by rfl) rfl rfl (by (try simp only [List.map_toArray, List.map_cons, List.map_nil]); first | done | rfl | (simp only [List.length_drop, List.length_take]; rfl)) ?_
     with_reducible refine (impl_be.calls k t277 2 t278 _ A14.out).mono ?_
     rintro e w47 ⟨v279, rfl, ho0, hb⟩
     refine ⟨_, rfl, ?_⟩
     have n0_ := Aside0.mk (Kd.V_elder' HO265.out (Kd.R_base ho0) hb)
     have n1_ := Aside0.mk (Kd.N_elder' HO268.out (Kd.R_base ho0) hb)
     have n2_ := Aside0.mk (Kd.R_elder' HO271.out (Kd.R_base ho0) hb)
     have n3_ := Aside0.mk (Kd.V_elder' HO276.out (Kd.R_base ho0) hb)
     have n4_ := Aside0.mk (Kd.R_lower (Kd.R_new' ho0 (Kd.R_lt (by (with_reducible repeat (first | apply Kd.R_alloc | apply Kd.R_drewN | apply Kd.R_drew)); exact HO271.out))) (below_size (by repeat (first | (with_reducible first | exact HB.out | apply below_alloc | apply pw_below_drewN | apply below_drew1 | refine below_set ?_ GE241.out) | exact HB.out))))
     have n5_ := Aside0.mk (blk_below (g := gb241) (o := .cells #[.int .i64 a2_0, .int .i64 a2_1, .int .i64 a2_2, .int .i64 a2_3, .int .i64 a2_4, .int .i64 a2_5, .string a2_6] 67 (0, 0)) BK241.out hb)
     have n6_ := Aside0.mk (below_step HB.out hb)
     clear HO265
     clear HO268
     clear HO271
     clear HO276
     clear BK241
     clear HB
     have HO265 := n0_
     have HO268 := n1_
     have HO271 := n2_
     have HO276 := n3_
     have HO280 := n4_
     have BK241 := n5_
     have HB := n6_
     clear n0_ n1_ n2_ n3_ n4_ n5_ n6_
     (try clear hb)
     (try clear hb2)
     (try clear hk)
     (try clear hi)
     (try clear ho0)
     obtain ⟨Ao50, co50, eo50⟩ := Kd.R_slice HO280.out
     (first | subst eo50 | (injection eo50 with f1_ f2_ f3_; have f4_ := f1_.symm; have f5_ := f3_.symm; clear f1_ f2_ f3_; subst f4_; subst f5_))
     have n_ := Aside0.mk (Kd.R_mono (ok' := (fun k_ => some k_ ≠ (.slice Ao50 t278.length co50 : Value).ownBlock)) HO271.out (fun k_ hk => by first | trivial | exact hk.2 | exact hk.2 | exact hk.1 | exact hk | exact hk.1.2 | exact hk.1.1 | exact hk.2.1 | exact hk.2.2))
     clear HO271
     have HO271 := n_
     clear n_
     refine hK.out _ _ trivial (fun hHeld => ?_)
     clear hK K
     refine norm_ (a' := ?_) ?_ ?_
     rotate_left
     ·show Act.put _ (some 39) _ = _
      simp only [Act.put, List.setIfInBounds_toArray, List.set_cons_zero, List.set_cons_succ, i64_w, i32_w]
      rfl
     refine one_ (i := 7) (N := some 40) #[true, true, true, true, true, true, true, true] rfl rfl (one_of HT_.out (by kernel_rfl)) (by decide) (fun K hK => ?_)
     have hl_ := LMc15.out
     have hr_ := (Kd.R_reads' (HO271.out)).1
     refine Kd.R_copy_step (k0 := .u8) (w0 := w) w.heap.size (by rfl) (.tmp 34) (.tmp 39) 22 22 5 rfl Try.underlying22 (by kernel_rfl) (g := go45) (n := t269.length) (c := co44) (k := (16 : Int).toNat) (m := t278.length) (ys := t278) rfl rfl ?hn ?hA (by (with_reducible repeat (first | apply Kd.R_alloc | apply Kd.R_drewN | apply Kd.R_drew)); exact HO271.out) (Kd.R_reads' HO280.out).2.2 ?hk (by repeat (first | (with_reducible first | exact HB.out | apply below_alloc | apply pw_below_drewN | apply below_drew1 | refine below_set ?_ GE241.out) | exact HB.out)) (below_size (by repeat (first | (with_reducible first | exact HB.out | apply below_alloc | apply pw_below_drewN | apply below_drew1 | refine below_set ?_ GE241.out) | exact HB.out))) ?_
     (case hn => exact KY43.out)
     (case hA => exact KA43.out)
     (case hk => omega)
     intro w48 ho hb hg
     clear hl_ hr_
     rw [← Ny281.out] at ho
     have n0_ := Aside0.mk (blk_grown (g := gb241) (o := .cells #[.int .i64 a2_0, .int .i64 a2_1, .int .i64 a2_2, .int .i64 a2_3, .int .i64 a2_4, .int .i64 a2_5, .string a2_6] 67 (0, 0)) (by (with_reducible repeat (first | refine blk_drewN ?_ _ | refine blk_drew ?_ | refine blk_alloc ?_ _)); exact BK241.out) hg (Kd.R_ne HO271.out BK241.out (by decide)))
     have n1_ := Aside0.mk (ho)
     have n2_ := Aside0.mk (hb)
     clear BK241
     clear HO271
     clear HB
     clear HO265
     clear HO268
     clear HO276
     clear HO280
     have BK241 := n0_
     have HO271 := n1_
     have HB := n2_
     clear n0_ n1_ n2_
     clear ho hb hg
     refine hK.out _ _ trivial (fun hHeld => ?_)
     clear hK K
     refine norm_ (a' := ?_) ?_ ?_
     rotate_left
     ·show Act.put _ (some 40) _ = _
      simp only [Act.put, List.setIfInBounds_toArray, List.set_cons_zero, List.set_cons_succ, i64_w, i32_w]
      rfl
     refine done_ (done_of HT_.out (by kernel_rfl)) ?_
     try go_wp2
     go_ret
     exact ⟨_, by first | rfl | (simp [errW_none, errW_some] <;> rfl) | (simp [*, errW_none, errW_some] <;> rfl), by (with_reducible repeat (first | apply Kd.R_alloc | apply Kd.R_drewN | apply Kd.R_drew)); exact Kd.R_mono HO271.out (fun _ hk => trivial), by repeat (first | (with_reducible first | exact HB.out | apply below_alloc | apply pw_below_drewN | apply below_drew1 | refine below_set ?_ GE241.out) | exact HB.out)⟩
    ·rw [if_neg c15] at H
     exact absurd H (by simp)
   ·rw [if_neg c12] at H
    exact absurd H (by simp)
  ·rw [if_neg c10] at H
   exact absurd H (by simp)
 ·rw [if_neg c9] at H
  exact absurd H (by simp)

end Go.Proofs.Ythfhflgiblmooaa.PFs
