-- Printed by this session's own program (wip/tools/myprint.py over the kit's print, out of the translation). Nothing here is trusted: Lean checks it.
import Derived.Test.YthfhflgiblmooaaPDbx0
import Derived.Test.YthfhflgiblmooaaPDbx3
namespace Go.Proofs.Ythfhflgiblmooaa.PDb
open Go.RowKit Go.Proofs.YthfhflgiblmooaaW.PrintWords Go.Proofs.YthfhflgiblmooaaW.PrintLast Go.Proofs.YthfhflgiblmooaaW.PrintMore
attribute [local go_sem] w64_u8 w64_u8_4 max2_int min2_int max_two min_two max_three min_three max_four min_four   -- for this text's walks alone
set_option linter.unusedVariables false
set_option linter.unusedSimpArgs false

/-! ### impl_datagramBytes: function 83 -/
def impl_datagramBytes.f (k : Nat) (a0 : Int) (a1 : Int) (a2_0 : Int) (a2_1 : Int) (a2_2 : ByteArray) : Option (List Int) := (impl_be.f k a2_0 2).bind fun t188 => ((impl_be.f k a2_1 2).bind fun t191 => ((impl_be.f k (wrap64 (8 + (a2_2.size : Int))) 2).bind fun t194 => (if 2 ≤ 281474976710656 then (if a2_2.size ≤ 140737488355328 then ((slices_Concat_byte_byte.f k (([t188, t191, t194, (List.replicate 2 0), (bytesOf a2_2)] : List (List Int)))).bind fun t206 => ((impl_withEnds.f k a0 a1 17 t206).bind fun t209 => (if t209 = 0 then (if 6 ≤ (t206.length : Int) then ((impl_be.f k 65535 2).bind fun t215 => (if (6 : Int).toNat + t215.length ≤ t206.length then (some (t206.take (6 : Int).toNat ++ t215 ++ t206.drop ((6 : Int).toNat + t215.length))) else (none))) else (none)) else (if 6 ≤ (t206.length : Int) then ((impl_be.f k t209 2).bind fun t224 => (if (6 : Int).toNat + t224.length ≤ t206.length then (some (t206.take (6 : Int).toNat ++ t224 ++ t206.drop ((6 : Int).toNat + t224.length))) else (none))) else (none))))) else (none)) else (none))))
theorem impl_datagramBytes.mono : ∀ a0 a1 a2 a3 a4 k, LeO (impl_datagramBytes.f k a0 a1 a2 a3 a4) (impl_datagramBytes.f (k + 1) a0 a1 a2 a3 a4) := by
  intro a0 a1 a2 a3 a4 k
  unfold impl_datagramBytes.f
  repeat' first
      | (with_reducible exact impl_be.mono _ _ _)
      | (with_reducible exact impl_withEnds.mono _ _ _ _ _)
      | (with_reducible exact slices_Concat_byte_byte.mono _ _)
      | (with_reducible exact LeO.refl _)
      | (with_reducible exact LeO.none _)
      | (with_reducible refine LeO.ite ?_ ?_)
      | (with_reducible refine LeO.bind ?_ (fun _ => ?_))
      | exact impl_be.mono _ _ _
      | exact impl_withEnds.mono _ _ _ _ _
      | exact slices_Concat_byte_byte.mono _ _
      | exact LeO.none _
      | refine LeO.ite ?_ ?_
      | refine LeO.bind ?_ (fun _ => ?_)
def impl_datagramBytes.T1 : Bool × List (List Nat × List Nat) := (true, [([], []), ([0], [0]), ([1], [1]), ([], []), ([3], [3]), ([4, 2], [4]), ([], []), ([6], [6]), ([7], [7]), ([8], [8]), ([9, 5], [9]), ([], []), ([], []), ([12], [12]), ([13], [13]), ([2, 5, 10, 11, 14], [2, 5, 10, 11, 14]), ([15, 10], [15]), ([16, 16, 0, 1, 2, 3, 4, 5, 6, 7, 8, 9, 10, 11, 12, 13, 14, 15, 16], [16])])
def impl_datagramBytes.B1 : List Nat := [0, 1, 3, 0, 8, 31, 0, 64, 192, 448, 1023, 0, 0, 4096, 12288, 32767, 65535, 131071]
theorem impl_datagramBytes.tab1 : rtab .any (opsOf Try.f83 1) = impl_datagramBytes.T1 := by kernel_rfl
theorem impl_datagramBytes.bits1 : waitsOk impl_datagramBytes.T1.2 impl_datagramBytes.B1 = true := by kernel_rfl
set_option maxHeartbeats 8000000 in
set_option maxRecDepth 100000 in
theorem impl_datagramBytes.calls (k : Nat) (a0 : Int) (a1 : Int) (a2_0 : Int) (a2_1 : Int) (a2_2 : ByteArray) (r : List Int) (w : World) (h : impl_datagramBytes.f k a0 a1 a2_0 a2_1 a2_2 = some r) :
    Calls Try.prog 83 #[.int .i64 a0, .int .i64 a1, .agg #[.int .i64 a2_0, .int .i64 a2_1, .string a2_2]] w fun e w' => ∃ v0_ : Value, e = .returned (v0_) ∧ Kd.R (Kd.int .u8) 5 w' w.heap.size (fun _ => True) v0_ r ∧ Below w.heap.size w w' := by
  have hu60 := Try.underlying60
  have HB := Aside0.mk (Below.refl w.heap.size w)
  have H : ((impl_be.f k a2_0 2).bind fun t188 => ((impl_be.f k a2_1 2).bind fun t191 => ((impl_be.f k (wrap64 (8 + (a2_2.size : Int))) 2).bind fun t194 => (if 2 ≤ 281474976710656 then (if a2_2.size ≤ 140737488355328 then ((slices_Concat_byte_byte.f k (([t188, t191, t194, (List.replicate 2 0), (bytesOf a2_2)] : List (List Int)))).bind fun t206 => ((impl_withEnds.f k a0 a1 17 t206).bind fun t209 => (if t209 = 0 then (if 6 ≤ (t206.length : Int) then ((impl_be.f k 65535 2).bind fun t215 => (if (6 : Int).toNat + t215.length ≤ t206.length then (some (t206.take (6 : Int).toNat ++ t215 ++ t206.drop ((6 : Int).toNat + t215.length))) else (none))) else (none)) else (if 6 ≤ (t206.length : Int) then ((impl_be.f k t209 2).bind fun t224 => (if (6 : Int).toNat + t224.length ≤ t206.length then (some (t206.take (6 : Int).toNat ++ t224 ++ t206.drop ((6 : Int).toNat + t224.length))) else (none))) else (none))))) else (none)) else (none))))) = some r := h
  clear h
  replace H := Option.bind_eq_some_iff.mp H
  obtain ⟨t188, A40, H⟩ := H
  replace H : ((impl_be.f k a2_1 2).bind fun t191 => ((impl_be.f k (wrap64 (8 + (a2_2.size : Int))) 2).bind fun t194 => (if 2 ≤ 281474976710656 then (if a2_2.size ≤ 140737488355328 then ((slices_Concat_byte_byte.f k (([t188, t191, t194, (List.replicate 2 0), (bytesOf a2_2)] : List (List Int)))).bind fun t206 => ((impl_withEnds.f k a0 a1 17 t206).bind fun t209 => (if t209 = 0 then (if 6 ≤ (t206.length : Int) then ((impl_be.f k 65535 2).bind fun t215 => (if (6 : Int).toNat + t215.length ≤ t206.length then (some (t206.take (6 : Int).toNat ++ t215 ++ t206.drop ((6 : Int).toNat + t215.length))) else (none))) else (none)) else (if 6 ≤ (t206.length : Int) then ((impl_be.f k t209 2).bind fun t224 => (if (6 : Int).toNat + t224.length ≤ t206.length then (some (t206.take (6 : Int).toNat ++ t224 ++ t206.drop ((6 : Int).toNat + t224.length))) else (none))) else (none))))) else (none)) else (none)))) = some r := H
  have A4 := Aside0.mk A40
  clear A40
  replace H := Option.bind_eq_some_iff.mp H
  obtain ⟨t191, A50, H⟩ := H
  replace H : ((impl_be.f k (wrap64 (8 + (a2_2.size : Int))) 2).bind fun t194 => (if 2 ≤ 281474976710656 then (if a2_2.size ≤ 140737488355328 then ((slices_Concat_byte_byte.f k (([t188, t191, t194, (List.replicate 2 0), (bytesOf a2_2)] : List (List Int)))).bind fun t206 => ((impl_withEnds.f k a0 a1 17 t206).bind fun t209 => (if t209 = 0 then (if 6 ≤ (t206.length : Int) then ((impl_be.f k 65535 2).bind fun t215 => (if (6 : Int).toNat + t215.length ≤ t206.length then (some (t206.take (6 : Int).toNat ++ t215 ++ t206.drop ((6 : Int).toNat + t215.length))) else (none))) else (none)) else (if 6 ≤ (t206.length : Int) then ((impl_be.f k t209 2).bind fun t224 => (if (6 : Int).toNat + t224.length ≤ t206.length then (some (t206.take (6 : Int).toNat ++ t224 ++ t206.drop ((6 : Int).toNat + t224.length))) else (none))) else (none))))) else (none)) else (none))) = some r := H
  have A5 := Aside0.mk A50
  clear A50
  replace H := Option.bind_eq_some_iff.mp H
  obtain ⟨t194, A60, H⟩ := H
  replace H : (if 2 ≤ 281474976710656 then (if a2_2.size ≤ 140737488355328 then ((slices_Concat_byte_byte.f k (([t188, t191, t194, (List.replicate 2 0), (bytesOf a2_2)] : List (List Int)))).bind fun t206 => ((impl_withEnds.f k a0 a1 17 t206).bind fun t209 => (if t209 = 0 then (if 6 ≤ (t206.length : Int) then ((impl_be.f k 65535 2).bind fun t215 => (if (6 : Int).toNat + t215.length ≤ t206.length then (some (t206.take (6 : Int).toNat ++ t215 ++ t206.drop ((6 : Int).toNat + t215.length))) else (none))) else (none)) else (if 6 ≤ (t206.length : Int) then ((impl_be.f k t209 2).bind fun t224 => (if (6 : Int).toNat + t224.length ≤ t206.length then (some (t206.take (6 : Int).toNat ++ t224 ++ t206.drop ((6 : Int).toNat + t224.length))) else (none))) else (none))))) else (none)) else (none)) = some r := H
  have A6 := Aside0.mk A60
  clear A60
  by_cases c7 : 2 ≤ 281474976710656
  · rw [if_pos c7] at H
    have c7b0 := eq_true c7
    have c7b1 : decide (2 ≤ 281474976710656) = true := decide_eq_true c7
    clear c7
    obtain ⟨y197, hy197⟩ : ∃ y_ : List Int, y_ = (List.replicate 2 0) := ⟨_, rfl⟩
    replace H : (if a2_2.size ≤ 140737488355328 then ((slices_Concat_byte_byte.f k (([t188, t191, t194, y197, (bytesOf a2_2)] : List (List Int)))).bind fun t206 => ((impl_withEnds.f k a0 a1 17 t206).bind fun t209 => (if t209 = 0 then (if 6 ≤ (t206.length : Int) then ((impl_be.f k 65535 2).bind fun t215 => (if (6 : Int).toNat + t215.length ≤ t206.length then (some (t206.take (6 : Int).toNat ++ t215 ++ t206.drop ((6 : Int).toNat + t215.length))) else (none))) else (none)) else (if 6 ≤ (t206.length : Int) then ((impl_be.f k t209 2).bind fun t224 => (if (6 : Int).toNat + t224.length ≤ t206.length then (some (t206.take (6 : Int).toNat ++ t224 ++ t206.drop ((6 : Int).toNat + t224.length))) else (none))) else (none))))) else (none)) = some r := by first | (rw [hy197]; with_reducible exact H) | (have H2_ := (Option.bind_some _ _).symm.trans H; rw [hy197]; with_reducible exact H2_) | (have H2_ := (Option.bind_some _ _).symm.trans H; with_reducible exact H2_) | with_reducible exact H | (rw [hy197]; exact H) | exact H
    have Ny197 := Aside0.mk hy197
    clear hy197
    by_cases c8 : a2_2.size ≤ 140737488355328
    · rw [if_pos c8] at H
      have c8b0 := eq_true c8
      have c8b1 : decide (a2_2.size ≤ 140737488355328) = true := decide_eq_true c8
      clear c8
      obtain ⟨y200, hy200⟩ : ∃ y_ : List Int, y_ = (bytesOf a2_2) := ⟨_, rfl⟩
      replace H : ((slices_Concat_byte_byte.f k (([t188, t191, t194, y197, y200] : List (List Int)))).bind fun t206 => ((impl_withEnds.f k a0 a1 17 t206).bind fun t209 => (if t209 = 0 then (if 6 ≤ (t206.length : Int) then ((impl_be.f k 65535 2).bind fun t215 => (if (6 : Int).toNat + t215.length ≤ t206.length then (some (t206.take (6 : Int).toNat ++ t215 ++ t206.drop ((6 : Int).toNat + t215.length))) else (none))) else (none)) else (if 6 ≤ (t206.length : Int) then ((impl_be.f k t209 2).bind fun t224 => (if (6 : Int).toNat + t224.length ≤ t206.length then (some (t206.take (6 : Int).toNat ++ t224 ++ t206.drop ((6 : Int).toNat + t224.length))) else (none))) else (none))))) = some r := by first | (rw [hy200]; with_reducible exact H) | (have H2_ := (Option.bind_some _ _).symm.trans H; rw [hy200]; with_reducible exact H2_) | (have H2_ := (Option.bind_some _ _).symm.trans H; with_reducible exact H2_) | with_reducible exact H | (rw [hy200]; exact H) | exact H
      have Ny200 := Aside0.mk hy200
      clear hy200
      obtain ⟨y203, hy203⟩ : ∃ y_ : List (List Int), y_ = (([t188, t191, t194, y197, y200] : List (List Int))) := ⟨_, rfl⟩
      replace H : ((slices_Concat_byte_byte.f k y203).bind fun t206 => ((impl_withEnds.f k a0 a1 17 t206).bind fun t209 => (if t209 = 0 then (if 6 ≤ (t206.length : Int) then ((impl_be.f k 65535 2).bind fun t215 => (if (6 : Int).toNat + t215.length ≤ t206.length then (some (t206.take (6 : Int).toNat ++ t215 ++ t206.drop ((6 : Int).toNat + t215.length))) else (none))) else (none)) else (if 6 ≤ (t206.length : Int) then ((impl_be.f k t209 2).bind fun t224 => (if (6 : Int).toNat + t224.length ≤ t206.length then (some (t206.take (6 : Int).toNat ++ t224 ++ t206.drop ((6 : Int).toNat + t224.length))) else (none))) else (none))))) = some r := by first | (rw [hy203]; with_reducible exact H) | (have H2_ := (Option.bind_some _ _).symm.trans H; rw [hy203]; with_reducible exact H2_) | (have H2_ := (Option.bind_some _ _).symm.trans H; with_reducible exact H2_) | with_reducible exact H | (rw [hy203]; exact H) | exact H
      have Ny203 := Aside0.mk hy203
      clear hy203
      replace H := Option.bind_eq_some_iff.mp H
      obtain ⟨t206, A90, H⟩ := H
      replace H : ((impl_withEnds.f k a0 a1 17 t206).bind fun t209 => (if t209 = 0 then (if 6 ≤ (t206.length : Int) then ((impl_be.f k 65535 2).bind fun t215 => (if (6 : Int).toNat + t215.length ≤ t206.length then (some (t206.take (6 : Int).toNat ++ t215 ++ t206.drop ((6 : Int).toNat + t215.length))) else (none))) else (none)) else (if 6 ≤ (t206.length : Int) then ((impl_be.f k t209 2).bind fun t224 => (if (6 : Int).toNat + t224.length ≤ t206.length then (some (t206.take (6 : Int).toNat ++ t224 ++ t206.drop ((6 : Int).toNat + t224.length))) else (none))) else (none)))) = some r := H
      have A9 := Aside0.mk A90
      clear A90
      replace H := Option.bind_eq_some_iff.mp H
      obtain ⟨t209, A100, H⟩ := H
      replace H : (if t209 = 0 then (if 6 ≤ (t206.length : Int) then ((impl_be.f k 65535 2).bind fun t215 => (if (6 : Int).toNat + t215.length ≤ t206.length then (some (t206.take (6 : Int).toNat ++ t215 ++ t206.drop ((6 : Int).toNat + t215.length))) else (none))) else (none)) else (if 6 ≤ (t206.length : Int) then ((impl_be.f k t209 2).bind fun t224 => (if (6 : Int).toNat + t224.length ≤ t206.length then (some (t206.take (6 : Int).toNat ++ t224 ++ t206.drop ((6 : Int).toNat + t224.length))) else (none))) else (none))) = some r := H
      have A10 := Aside0.mk A100
      clear A100
      by_cases c11 : t209 = 0
      · rw [if_pos c11] at H
        have c11b0 : (t209 == 0) = true := beq_iff_eq.mpr c11
        have c11b1 : (t209 != 0) = false := bne_eq_false_iff_eq.mpr c11
        clear c11
        by_cases c12 : 6 ≤ (t206.length : Int)
        · rw [if_pos c12] at H
          have c12b0 := eq_true c12
          have c12b1 : decide (6 ≤ (t206.length : Int)) = true := decide_eq_true c12
          clear c12
          obtain ⟨y210, hy210⟩ : ∃ y_ : List Int, y_ = (t206.drop 6) := ⟨_, rfl⟩
          replace H : ((impl_be.f k 65535 2).bind fun t215 => (if (6 : Int).toNat + t215.length ≤ t206.length then (some (t206.take (6 : Int).toNat ++ t215 ++ t206.drop ((6 : Int).toNat + t215.length))) else (none))) = some r := by first | (rw [hy210]; with_reducible exact H) | (have H2_ := (Option.bind_some _ _).symm.trans H; rw [hy210]; with_reducible exact H2_) | (have H2_ := (Option.bind_some _ _).symm.trans H; with_reducible exact H2_) | with_reducible exact H | (rw [hy210]; exact H) | exact H
          have Ny210 := Aside0.mk hy210
          clear hy210
          replace H := Option.bind_eq_some_iff.mp H
          obtain ⟨t215, A130, H⟩ := H
          replace H : (if (6 : Int).toNat + t215.length ≤ t206.length then (some (t206.take (6 : Int).toNat ++ t215 ++ t206.drop ((6 : Int).toNat + t215.length))) else (none)) = some r := H
          have A13 := Aside0.mk A130
          clear A130
          by_cases c14 : (6 : Int).toNat + t215.length ≤ t206.length
          · rw [if_pos c14] at H
            have LMc14 := Aside0.mk c14
            clear c14
            obtain ⟨y218, hy218⟩ : ∃ y_ : List Int, y_ = (t206.take (6 : Int).toNat ++ t215 ++ t206.drop ((6 : Int).toNat + t215.length)) := ⟨_, rfl⟩
            replace H : (some y218) = some r := by first | (rw [hy218]; with_reducible exact H) | (have H2_ := (Option.bind_some _ _).symm.trans H; rw [hy218]; with_reducible exact H2_) | (have H2_ := (Option.bind_some _ _).symm.trans H; with_reducible exact H2_) | with_reducible exact H | (rw [hy218]; exact H) | exact H
            have Ny218 := Aside0.mk hy218
            clear hy218
            obtain rfl := Option.some.inj H
            go_enter Try.func83, Try.ntmps83
            try go_wp2_with (first | ((with_reducible refine gate_dst (N := 5) rfl ?_); refine box_event ?hg (N := 5) ?hd (cs := #[.int .i64 a2_0, .int .i64 a2_1, .string a2_2]) (t := 60) ?hr ?_; (case hd => rfl); (case hg => rfl); (case hr => first | (go_simp; done) | (go_simp; rfl)); intro gb187 hg w15 hbox hb; have n0_ := Aside0.mk (below_step (by repeat (first | (with_reducible first | exact HB.out | apply below_alloc | apply pw_below_drewN | apply below_drew1) | exact HB.out)) hb); have n1_ := Aside0.mk (hbox); have n2_ := Aside0.mk ((by rw [hg]; exact (below_size (by repeat (first | (with_reducible first | exact HB.out | apply below_alloc | apply pw_below_drewN | apply below_drew1) | exact HB.out))) : w.heap.size ≤ gb187)); have n3_ := Aside0.mk ((by rw [hg]; exact (below_size (by repeat (first | (with_reducible first | exact HB.out | apply below_alloc | apply pw_below_drewN | apply below_drew1) | exact HB.out))) : w.heap.size ≤ gb187)); clear HB; have HB := n0_; have BK187 := n1_; have GW187 := n2_; have GE187 := n3_; clear n0_ n1_ n2_ n3_; clear hb hbox hg))
            have n0_ := Aside0.mk (blk_drew BK187.out)
            have n1_ := Aside0.mk (below_drew1 HB.out)
            clear BK187
            clear HB
            have BK187 := n0_
            have HB := n1_
            clear n0_ n1_
            refine start_ (n := 18) (S := fun w' => True) (ds := []) #[false, false, false, false, false, false, false, false, false, false, false, false, false, false, false, false, false, false] (by kernel_rfl) rfl rfl trivial (fun hHeld => ?_); refine with_tabW impl_datagramBytes.tab1 impl_datagramBytes.bits1 (fun HT_ HW_ => ?_)
            generalize w15.drew = w16 at BK187 HB hHeld ⊢
            refine pure_ (i := 0) (N := some 9) (v := ?_) (a' := ?_) #[true, false, false, false, false, false, false, false, false, false, false, false, false, false, false, false, false, false] rfl rfl (any_of HT_.out (by kernel_rfl)) (fun _ _ _ h => h) (Or.inl ⟨by rfl, ?_⟩) ?_ ?_
            rotate_left
            · intro w'
              go_simp
              with_reducible rfl
            rotate_left
            · simp only [Act.put, List.setIfInBounds_toArray, List.set_cons_zero, List.set_cons_succ, i64_w, i32_w]
              rfl
            refine pure_ (i := 3) (N := some 12) (v := ?_) (a' := ?_) #[true, false, false, true, false, false, false, false, false, false, false, false, false, false, false, false, false, false] rfl rfl (any_of HT_.out (by kernel_rfl)) (fun _ _ _ h => h) (Or.inl ⟨by rfl, ?_⟩) ?_ ?_
            rotate_left
            · intro w'
              go_simp
              with_reducible rfl
            rotate_left
            · simp only [Act.put, List.setIfInBounds_toArray, List.set_cons_zero, List.set_cons_succ, i64_w, i32_w]
              rfl
            refine pure_ (i := 6) (N := some 15) (v := ?_) (a' := ?_) #[true, false, false, true, false, false, true, false, false, false, false, false, false, false, false, false, false, false] rfl rfl (any_of HT_.out (by kernel_rfl)) (fun _ _ _ h => h) (Or.inl ⟨by rfl, ?_⟩) ?_ ?_
            rotate_left
            · intro w'
              go_simp
              with_reducible rfl
            rotate_left
            · simp only [Act.put, List.setIfInBounds_toArray, List.set_cons_zero, List.set_cons_succ, i64_w, i32_w]
              rfl
            refine pure_ (i := 12) (N := some 21) (v := ?_) (a' := ?_) #[true, false, false, true, false, false, true, false, false, false, false, false, true, false, false, false, false, false] rfl rfl (any_of HT_.out (by kernel_rfl)) (fun _ _ _ h => h) (Or.inl ⟨by rfl, ?_⟩) ?_ ?_
            rotate_left
            · intro w'
              go_simp
              with_reducible rfl
            rotate_left
            · simp only [Act.put, List.setIfInBounds_toArray, List.set_cons_zero, List.set_cons_succ, i64_w, i32_w]
              rfl
            refine inv_at [1, 2, 4, 5, 7, 8, 9, 10, 11, 13, 14, 15, 16, 17] (fun a0_ b a w' => ∃ (v189 : Value) (v192 : Value) (v195 : Value) (v198 : Value) (v201 : Value) (v204 : Value) (v207 : Value) (m17_ : Value), a = putSel a0_ b [(1, 10, .int .i64 a2_0), (2, 11, v189), (4, 13, .int .i64 a2_1), (5, 14, v192), (7, 16, .string a2_2), (8, 17, .int .i64 (a2_2.size : Int)), (9, 18, .int .i64 (wrap64 (8 + (a2_2.size : Int)))), (10, 19, v195), (11, 20, v198), (13, 22, .string a2_2), (14, 23, v201), (15, 24, v204), (16, 25, v207), (17, 7, m17_)] ∧ (w'.heap[gb187]? = some (.cells #[.int .i64 a2_0, .int .i64 a2_1, .string a2_2] 60 (0, 0))) ∧ (Below w.heap.size w w') ∧ (b 2 = true → b 15 = false → Kd.R (Kd.int .u8) 5 w' w.heap.size (fun _ => True) v189 t188) ∧ (b 5 = true → b 15 = false → Kd.R (Kd.int .u8) 5 w' w.heap.size (fun _ => True) v192 t191) ∧ (b 10 = true → b 15 = false → Kd.R (Kd.int .u8) 5 w' w.heap.size (fun _ => True) v195 t194) ∧ (b 11 = true → b 15 = false → Kd.R (Kd.int .u8) 5 w' w.heap.size (fun _ => True) v198 y197) ∧ (b 14 = true → Kd.V (Kd.int .u8) 5 w' w.heap.size (fun k_ => k_ ≠ gb187) v201 y200) ∧ (b 15 = true → Kd.N (Kd.slice 5 (Kd.int .u8)) 22 w' w.heap.size (fun k_ => k_ ≠ gb187) v204 y203) ∧ (b 16 = true → Kd.R (Kd.int .u8) 5 w' w.heap.size (fun _ => True) v207 t206) ∧ (b 17 = true → (m17_ : Value) = v207)) HT_.out HW_.out (by kernel_rfl) (by kernel_rfl) ?_ ?_ ?_
            · exact ⟨.bool false, .bool false, .bool false, .bool false, .bool false, .bool false, .bool false, .bool false, by simp only [putSel, Bool.false_eq_true, if_false], BK187.out, HB.out, fun h_ => absurd h_ (by decide), fun h_ => absurd h_ (by decide), fun h_ => absurd h_ (by decide), fun h_ => absurd h_ (by decide), fun h_ => absurd h_ (by decide), fun h_ => absurd h_ (by decide), fun h_ => absurd h_ (by decide), fun h_ => absurd h_ (by decide)⟩
            · skip
              clear BK187 HB
              refine steps_cons ?_ ?_
              · rintro b a w' ⟨v189, v192, v195, v198, v201, v204, v207, m17_, ha, Q_BK187, Q_HB, Q_HO190, Q_HO193, Q_HO196, Q_HO199, Q_HO202, Q_HO205, Q_HO208, Q_X17_⟩ hb_ hon hoff
                refine ⟨_, rfl, fun K hK => ?_⟩
                have e9 : a.tmps[9]? = some (.pointer (some ⟨gb187, 0, none⟩)) := by rw [ha]; exact (putSel_off rfl).trans rfl
                replace ha := Aside0.mk ha
                have BK187 := Aside0.mk Q_BK187
                have HB := Aside0.mk Q_HB
                have hc0_ : w'.cell? ⟨gb187, 0, none⟩ = some (.int .i64 a2_0) := (blk_cell BK187.out 0).trans rfl
                have hc1_ : w'.cell? ⟨gb187, 1, none⟩ = some (.int .i64 a2_1) := (blk_cell BK187.out 1).trans rfl
                have hc2_ : w'.cell? ⟨gb187, 2, none⟩ = some (.string a2_2) := (blk_cell BK187.out 2).trans rfl
                refine value_ (w1 := w') (v := .int .i64 a2_0) (by rfl) rfl ?_ ?_
                · go_simp
                  (try simp only [i64_w])
                  try rfl
                refine hK.out _ _ ⟨v189, v192, v195, v198, v201, v204, v207, m17_, (by rw [ha.out]; exact putSel_upk 0 hb_ rfl rfl rfl), Q_BK187, Q_HB, fun h0_ _ => absurd ((hoff 2 (by kernel_rfl)).symm.trans h0_) (by decide), fun h0_ _ => absurd ((hoff 5 (by kernel_rfl)).symm.trans h0_) (by decide), fun h0_ _ => absurd ((hoff 10 (by kernel_rfl)).symm.trans h0_) (by decide), Q_HO199, Q_HO202, fun h0_ => absurd ((hoff 15 (by kernel_rfl)).symm.trans h0_) (by decide), fun h0_ => absurd ((hoff 16 (by kernel_rfl)).symm.trans h0_) (by decide), fun h0_ => absurd ((hoff 17 (by kernel_rfl)).symm.trans h0_) (by decide)⟩
              refine steps_cons ?_ ?_
              · rintro b a w' ⟨v189, v192, v195, v198, v201, v204, v207, m17_, ha, Q_BK187, Q_HB, Q_HO190, Q_HO193, Q_HO196, Q_HO199, Q_HO202, Q_HO205, Q_HO208, Q_X17_⟩ hb_ hon hoff
                refine ⟨_, rfl, fun K hK => ?_⟩
                have e10 : a.tmps[10]? = some (.int .i64 a2_0) := by rw [ha]; exact putSel_on (e := (1, 10, .int .i64 a2_0)) 0 rfl rfl (hon 1 (by kernel_rfl)) rfl
                replace ha := Aside0.mk ha
                have BK187 := Aside0.mk Q_BK187
                have HB := Aside0.mk Q_HB
                refine goes_ Try.func62 (by kernel_rfl) rfl #[.int .i64 a2_0, .int .i64 2] (by rfl) rfl rfl (by first | (simp only [List.map_toArray, List.map_cons, List.map_nil, Act.eval, Array.getD_eq_getD_getElem?, Option.getD_some, e10]; done) | (simp only [List.map_toArray, List.map_cons, List.map_nil, Act.eval, Array.getD_eq_getD_getElem?, Option.getD_some, e10]; rfl)) ?_
                with_reducible refine (impl_be.calls k a2_0 2 t188 _ A4.out).mono ?_
                rintro e w17 ⟨v189, rfl, ho0, hb⟩
                refine ⟨_, rfl, ?_⟩
                have n0_ := Aside0.mk (Kd.R_lower ho0 (below_size (by repeat (first | (with_reducible first | exact HB.out | apply below_alloc | apply pw_below_drewN | apply below_drew1 | refine below_set ?_ GE187.out) | exact HB.out))))
                have n1_ := Aside0.mk (blk_below (g := gb187) (o := .cells #[.int .i64 a2_0, .int .i64 a2_1, .string a2_2] 60 (0, 0)) (by (with_reducible repeat (first | refine blk_drewN ?_ _ | refine blk_drew ?_ | refine blk_alloc ?_ _)); exact BK187.out) hb)
                have n2_ := Aside0.mk (below_step (by repeat (first | (with_reducible first | exact HB.out | apply below_alloc | apply pw_below_drewN | apply below_drew1 | refine below_set ?_ GE187.out) | exact HB.out)) hb)
                have z_HO199 := fun (h0_ : b 11 = true) (h1_ : b 15 = false) => (show Kd.R (Kd.int .u8) 5 w17 w.heap.size (fun _ => True) v198 y197 from by first | exact (Kd.R_elder' (by (with_reducible repeat (first | apply Kd.R_alloc | apply Kd.R_drewN | apply Kd.R_drew)); exact (Q_HO199 h0_ h1_)) (Kd.R_base ho0) hb) | exact Kd.R_mono (Kd.R_elder' (by (with_reducible repeat (first | apply Kd.R_alloc | apply Kd.R_drewN | apply Kd.R_drew)); exact (Q_HO199 h0_ h1_)) (Kd.R_base ho0) hb) (fun _ h_ => by first | trivial | exact h_ | exact h_.1))
                have z_HO202 := fun (h0_ : b 14 = true) => (show Kd.V (Kd.int .u8) 5 w17 w.heap.size (fun k_ => k_ ≠ gb187) v201 y200 from by first | exact (Kd.V_elder' (by (with_reducible repeat (first | apply Kd.V_alloc | apply Kd.V_drewN | apply Kd.V_drew)); exact (Q_HO202 h0_)) (Kd.R_base ho0) hb) | exact Kd.V_mono (Kd.V_elder' (by (with_reducible repeat (first | apply Kd.V_alloc | apply Kd.V_drewN | apply Kd.V_drew)); exact (Q_HO202 h0_)) (Kd.R_base ho0) hb) (fun _ h_ => by first | trivial | exact h_ | exact h_.1))
                clear BK187
                clear HB
                have HO190 := n0_
                have BK187 := n1_
                have HB := n2_
                clear n0_ n1_ n2_
                (try clear hb)
                (try clear hb2)
                (try clear hk)
                (try clear hi)
                (try clear ho0)
                refine hK.out _ _ ⟨v189, v192, v195, v198, v201, v204, v207, m17_, (by rw [ha.out]; exact putSel_upk 1 hb_ rfl rfl rfl), (by (with_reducible repeat (first | refine blk_drewN ?_ _ | refine blk_drew ?_ | refine blk_alloc ?_ _)); exact BK187.out), (by repeat (first | (with_reducible first | exact HB.out | apply below_alloc | apply pw_below_drewN | apply below_drew1 | refine below_set ?_ GE187.out) | exact HB.out)), fun _ _ => (by (with_reducible repeat (first | apply Kd.R_alloc | apply Kd.R_drewN | apply Kd.R_drew)); first | exact HO190.out | exact Kd.R_mono HO190.out (fun _ h_ => by first | trivial | exact h_ | exact h_.1)), fun h0_ _ => absurd ((hoff 5 (by kernel_rfl)).symm.trans h0_) (by decide), fun h0_ _ => absurd ((hoff 10 (by kernel_rfl)).symm.trans h0_) (by decide), z_HO199, z_HO202, fun h0_ => absurd ((hoff 15 (by kernel_rfl)).symm.trans h0_) (by decide), fun h0_ => absurd ((hoff 16 (by kernel_rfl)).symm.trans h0_) (by decide), fun h0_ => absurd ((hoff 17 (by kernel_rfl)).symm.trans h0_) (by decide)⟩
              refine steps_cons ?_ ?_
              · rintro b a w' ⟨v189, v192, v195, v198, v201, v204, v207, m17_, ha, Q_BK187, Q_HB, Q_HO190, Q_HO193, Q_HO196, Q_HO199, Q_HO202, Q_HO205, Q_HO208, Q_X17_⟩ hb_ hon hoff
                refine ⟨_, rfl, fun K hK => ?_⟩
                have e12 : a.tmps[12]? = some (.pointer (some ⟨gb187, 1, none⟩)) := by rw [ha]; exact (putSel_off rfl).trans rfl
                replace ha := Aside0.mk ha
                have BK187 := Aside0.mk Q_BK187
                have HB := Aside0.mk Q_HB
                have hc0_ : w'.cell? ⟨gb187, 0, none⟩ = some (.int .i64 a2_0) := (blk_cell BK187.out 0).trans rfl
                have hc1_ : w'.cell? ⟨gb187, 1, none⟩ = some (.int .i64 a2_1) := (blk_cell BK187.out 1).trans rfl
                have hc2_ : w'.cell? ⟨gb187, 2, none⟩ = some (.string a2_2) := (blk_cell BK187.out 2).trans rfl
                refine value_ (w1 := w') (v := .int .i64 a2_1) (by rfl) rfl ?_ ?_
                · go_simp
                  (try simp only [i64_w])
                  try rfl
                refine hK.out _ _ ⟨v189, v192, v195, v198, v201, v204, v207, m17_, (by rw [ha.out]; exact putSel_upk 2 hb_ rfl rfl rfl), Q_BK187, Q_HB, Q_HO190, fun h0_ _ => absurd ((hoff 5 (by kernel_rfl)).symm.trans h0_) (by decide), fun h0_ _ => absurd ((hoff 10 (by kernel_rfl)).symm.trans h0_) (by decide), Q_HO199, Q_HO202, fun h0_ => absurd ((hoff 15 (by kernel_rfl)).symm.trans h0_) (by decide), fun h0_ => absurd ((hoff 16 (by kernel_rfl)).symm.trans h0_) (by decide), fun h0_ => absurd ((hoff 17 (by kernel_rfl)).symm.trans h0_) (by decide)⟩
              refine steps_cons ?_ ?_
              · rintro b a w' ⟨v189, v192, v195, v198, v201, v204, v207, m17_, ha, Q_BK187, Q_HB, Q_HO190, Q_HO193, Q_HO196, Q_HO199, Q_HO202, Q_HO205, Q_HO208, Q_X17_⟩ hb_ hon hoff
                refine ⟨_, rfl, fun K hK => ?_⟩
                have e13 : a.tmps[13]? = some (.int .i64 a2_1) := by rw [ha]; exact putSel_on (e := (4, 13, .int .i64 a2_1)) 2 rfl rfl (hon 4 (by kernel_rfl)) rfl
                replace ha := Aside0.mk ha
                have BK187 := Aside0.mk Q_BK187
                have HB := Aside0.mk Q_HB
                have HO190 := Aside0.mk (Q_HO190 (hon 2 (by kernel_rfl)) (hoff 15 (by kernel_rfl)))
                refine goes_ Try.func62 (by kernel_rfl) rfl #[.int .i64 a2_1, .int .i64 2] (by rfl) rfl rfl (by first | (simp only [List.map_toArray, List.map_cons, List.map_nil, Act.eval, Array.getD_eq_getD_getElem?, Option.getD_some, e13]; done) | (simp only [List.map_toArray, List.map_cons, List.map_nil, Act.eval, Array.getD_eq_getD_getElem?, Option.getD_some, e13]; rfl)) ?_
                with_reducible refine (impl_be.calls k a2_1 2 t191 _ A5.out).mono ?_
                rintro e w19 ⟨v192, rfl, ho0, hb⟩
                refine ⟨_, rfl, ?_⟩
                have n0_ := Aside0.mk (Kd.R_elder' (by (with_reducible repeat (first | apply Kd.R_alloc | apply Kd.R_drewN | apply Kd.R_drew)); exact HO190.out) (Kd.R_base ho0) hb)
                have n1_ := Aside0.mk (Kd.R_lower (Kd.R_new' ho0 (Kd.R_lt (by (with_reducible repeat (first | apply Kd.R_alloc | apply Kd.R_drewN | apply Kd.R_drew)); exact HO190.out))) (below_size (by repeat (first | (with_reducible first | exact HB.out | apply below_alloc | apply pw_below_drewN | apply below_drew1 | refine below_set ?_ GE187.out) | exact HB.out))))
                have n2_ := Aside0.mk (blk_below (g := gb187) (o := .cells #[.int .i64 a2_0, .int .i64 a2_1, .string a2_2] 60 (0, 0)) (by (with_reducible repeat (first | refine blk_drewN ?_ _ | refine blk_drew ?_ | refine blk_alloc ?_ _)); exact BK187.out) hb)
                have n3_ := Aside0.mk (below_step (by repeat (first | (with_reducible first | exact HB.out | apply below_alloc | apply pw_below_drewN | apply below_drew1 | refine below_set ?_ GE187.out) | exact HB.out)) hb)
                have z_HO199 := fun (h0_ : b 11 = true) (h1_ : b 15 = false) => (show Kd.R (Kd.int .u8) 5 w19 w.heap.size (fun _ => True) v198 y197 from by first | exact (Kd.R_elder' (by (with_reducible repeat (first | apply Kd.R_alloc | apply Kd.R_drewN | apply Kd.R_drew)); exact (Q_HO199 h0_ h1_)) (Kd.R_base ho0) hb) | exact Kd.R_mono (Kd.R_elder' (by (with_reducible repeat (first | apply Kd.R_alloc | apply Kd.R_drewN | apply Kd.R_drew)); exact (Q_HO199 h0_ h1_)) (Kd.R_base ho0) hb) (fun _ h_ => by first | trivial | exact h_ | exact h_.1))
                have z_HO202 := fun (h0_ : b 14 = true) => (show Kd.V (Kd.int .u8) 5 w19 w.heap.size (fun k_ => k_ ≠ gb187) v201 y200 from by first | exact (Kd.V_elder' (by (with_reducible repeat (first | apply Kd.V_alloc | apply Kd.V_drewN | apply Kd.V_drew)); exact (Q_HO202 h0_)) (Kd.R_base ho0) hb) | exact Kd.V_mono (Kd.V_elder' (by (with_reducible repeat (first | apply Kd.V_alloc | apply Kd.V_drewN | apply Kd.V_drew)); exact (Q_HO202 h0_)) (Kd.R_base ho0) hb) (fun _ h_ => by first | trivial | exact h_ | exact h_.1))
                clear HO190
                clear BK187
                clear HB
                have HO190 := n0_
                have HO193 := n1_
                have BK187 := n2_
                have HB := n3_
                clear n0_ n1_ n2_ n3_
                (try clear hb)
                (try clear hb2)
                (try clear hk)
                (try clear hi)
                (try clear ho0)
                refine hK.out _ _ ⟨v189, v192, v195, v198, v201, v204, v207, m17_, (by rw [ha.out]; exact putSel_upk 3 hb_ rfl rfl rfl), (by (with_reducible repeat (first | refine blk_drewN ?_ _ | refine blk_drew ?_ | refine blk_alloc ?_ _)); exact BK187.out), (by repeat (first | (with_reducible first | exact HB.out | apply below_alloc | apply pw_below_drewN | apply below_drew1 | refine below_set ?_ GE187.out) | exact HB.out)), fun _ _ => (by (with_reducible repeat (first | apply Kd.R_alloc | apply Kd.R_drewN | apply Kd.R_drew)); exact Kd.R_mono HO190.out (fun _ hk => by first | exact hk.2 | exact hk.2 | exact hk.1 | exact hk | exact hk.1.2 | exact hk.1.1 | exact hk.2.1 | exact hk.2.2)), fun _ _ => (by (with_reducible repeat (first | apply Kd.R_alloc | apply Kd.R_drewN | apply Kd.R_drew)); exact Kd.R_mono HO193.out (fun _ hk => by first | exact hk.2 | exact hk.2 | exact hk.1 | exact hk | exact hk.1.2 | exact hk.1.1 | exact hk.2.1 | exact hk.2.2)), fun h0_ _ => absurd ((hoff 10 (by kernel_rfl)).symm.trans h0_) (by decide), z_HO199, z_HO202, fun h0_ => absurd ((hoff 15 (by kernel_rfl)).symm.trans h0_) (by decide), fun h0_ => absurd ((hoff 16 (by kernel_rfl)).symm.trans h0_) (by decide), fun h0_ => absurd ((hoff 17 (by kernel_rfl)).symm.trans h0_) (by decide)⟩
              refine steps_cons ?_ ?_
              · rintro b a w' ⟨v189, v192, v195, v198, v201, v204, v207, m17_, ha, Q_BK187, Q_HB, Q_HO190, Q_HO193, Q_HO196, Q_HO199, Q_HO202, Q_HO205, Q_HO208, Q_X17_⟩ hb_ hon hoff
                refine ⟨_, rfl, fun K hK => ?_⟩
                have e15 : a.tmps[15]? = some (.pointer (some ⟨gb187, 2, none⟩)) := by rw [ha]; exact (putSel_off rfl).trans rfl
                replace ha := Aside0.mk ha
                have BK187 := Aside0.mk Q_BK187
                have HB := Aside0.mk Q_HB
                have hc0_ : w'.cell? ⟨gb187, 0, none⟩ = some (.int .i64 a2_0) := (blk_cell BK187.out 0).trans rfl
                have hc1_ : w'.cell? ⟨gb187, 1, none⟩ = some (.int .i64 a2_1) := (blk_cell BK187.out 1).trans rfl
                have hc2_ : w'.cell? ⟨gb187, 2, none⟩ = some (.string a2_2) := (blk_cell BK187.out 2).trans rfl
                refine value_ (w1 := w') (v := .string a2_2) (by rfl) rfl ?_ ?_
                · go_simp
                  (try simp only [i64_w])
                  try rfl
                refine hK.out _ _ ⟨v189, v192, v195, v198, v201, v204, v207, m17_, (by rw [ha.out]; exact putSel_upk 4 hb_ rfl rfl rfl), Q_BK187, Q_HB, Q_HO190, Q_HO193, fun h0_ _ => absurd ((hoff 10 (by kernel_rfl)).symm.trans h0_) (by decide), Q_HO199, Q_HO202, fun h0_ => absurd ((hoff 15 (by kernel_rfl)).symm.trans h0_) (by decide), fun h0_ => absurd ((hoff 16 (by kernel_rfl)).symm.trans h0_) (by decide), fun h0_ => absurd ((hoff 17 (by kernel_rfl)).symm.trans h0_) (by decide)⟩
              refine steps_cons ?_ ?_
              · rintro b a w' ⟨v189, v192, v195, v198, v201, v204, v207, m17_, ha, Q_BK187, Q_HB, Q_HO190, Q_HO193, Q_HO196, Q_HO199, Q_HO202, Q_HO205, Q_HO208, Q_X17_⟩ hb_ hon hoff
                refine ⟨_, rfl, fun K hK => ?_⟩
                have e16 : a.tmps[16]? = some (.string a2_2) := by rw [ha]; exact putSel_on (e := (7, 16, .string a2_2)) 4 rfl rfl (hon 7 (by kernel_rfl)) rfl
                replace ha := Aside0.mk ha
                have BK187 := Aside0.mk Q_BK187
                have HB := Aside0.mk Q_HB
                refine value_ (w1 := w') (v := .int .i64 (a2_2.size : Int)) (by rfl) rfl ?_ ?_
                · go_simp
                  (try simp only [i64_w])
                  try rfl
                refine hK.out _ _ ⟨v189, v192, v195, v198, v201, v204, v207, m17_, (by rw [ha.out]; exact putSel_upk 5 hb_ rfl rfl rfl), Q_BK187, Q_HB, Q_HO190, Q_HO193, fun h0_ _ => absurd ((hoff 10 (by kernel_rfl)).symm.trans h0_) (by decide), Q_HO199, Q_HO202, fun h0_ => absurd ((hoff 15 (by kernel_rfl)).symm.trans h0_) (by decide), fun h0_ => absurd ((hoff 16 (by kernel_rfl)).symm.trans h0_) (by decide), fun h0_ => absurd ((hoff 17 (by kernel_rfl)).symm.trans h0_) (by decide)⟩
              refine steps_cons ?_ ?_
              · rintro b a w' ⟨v189, v192, v195, v198, v201, v204, v207, m17_, ha, Q_BK187, Q_HB, Q_HO190, Q_HO193, Q_HO196, Q_HO199, Q_HO202, Q_HO205, Q_HO208, Q_X17_⟩ hb_ hon hoff
                refine ⟨_, rfl, fun K hK => ?_⟩
                have e17 : a.tmps[17]? = some (.int .i64 (a2_2.size : Int)) := by rw [ha]; exact putSel_on (e := (8, 17, .int .i64 (a2_2.size : Int))) 5 rfl rfl (hon 8 (by kernel_rfl)) rfl
                replace ha := Aside0.mk ha
                have BK187 := Aside0.mk Q_BK187
                have HB := Aside0.mk Q_HB
                refine value_ (w1 := w') (v := .int .i64 (wrap64 (8 + (a2_2.size : Int)))) (by rfl) rfl ?_ ?_
                · go_simp
                  (try simp only [i64_w])
                  try rfl
                refine hK.out _ _ ⟨v189, v192, v195, v198, v201, v204, v207, m17_, (by rw [ha.out]; exact putSel_upk 6 hb_ rfl rfl rfl), Q_BK187, Q_HB, Q_HO190, Q_HO193, fun h0_ _ => absurd ((hoff 10 (by kernel_rfl)).symm.trans h0_) (by decide), Q_HO199, Q_HO202, fun h0_ => absurd ((hoff 15 (by kernel_rfl)).symm.trans h0_) (by decide), fun h0_ => absurd ((hoff 16 (by kernel_rfl)).symm.trans h0_) (by decide), fun h0_ => absurd ((hoff 17 (by kernel_rfl)).symm.trans h0_) (by decide)⟩
              refine steps_cons ?_ ?_
              · rintro b a w' ⟨v189, v192, v195, v198, v201, v204, v207, m17_, ha, Q_BK187, Q_HB, Q_HO190, Q_HO193, Q_HO196, Q_HO199, Q_HO202, Q_HO205, Q_HO208, Q_X17_⟩ hb_ hon hoff
                refine ⟨_, rfl, fun K hK => ?_⟩
                have e18 : a.tmps[18]? = some (.int .i64 (wrap64 (8 + (a2_2.size : Int)))) := by rw [ha]; exact putSel_on (e := (9, 18, .int .i64 (wrap64 (8 + (a2_2.size : Int))))) 6 rfl rfl (hon 9 (by kernel_rfl)) rfl
                replace ha := Aside0.mk ha
                have BK187 := Aside0.mk Q_BK187
                have HB := Aside0.mk Q_HB
                have HO190 := Aside0.mk (Q_HO190 (hon 2 (by kernel_rfl)) (hoff 15 (by kernel_rfl)))
                have HO193 := Aside0.mk (Q_HO193 (hon 5 (by kernel_rfl)) (hoff 15 (by kernel_rfl)))
                refine goes_ Try.func62 (by kernel_rfl) rfl #[.int .i64 (wrap64 (8 + (a2_2.size : Int))), .int .i64 2] (by rfl) rfl rfl (by first | (simp only [List.map_toArray, List.map_cons, List.map_nil, Act.eval, Array.getD_eq_getD_getElem?, Option.getD_some, e18]; done) | (simp only [List.map_toArray, List.map_cons, List.map_nil, Act.eval, Array.getD_eq_getD_getElem?, Option.getD_some, e18]; rfl)) ?_
                with_reducible refine (impl_be.calls k (wrap64 (8 + (a2_2.size : Int))) 2 t194 _ A6.out).mono ?_
                rintro e w20 ⟨v195, rfl, ho0, hb⟩
                refine ⟨_, rfl, ?_⟩
                have n0_ := Aside0.mk (Kd.R_elder' (by (with_reducible repeat (first | apply Kd.R_alloc | apply Kd.R_drewN | apply Kd.R_drew)); exact HO190.out) (Kd.R_base ho0) hb)
                have n1_ := Aside0.mk (Kd.R_elder' (by (with_reducible repeat (first | apply Kd.R_alloc | apply Kd.R_drewN | apply Kd.R_drew)); exact HO193.out) (Kd.R_base ho0) hb)
                have n2_ := Aside0.mk (Kd.R_lower (Kd.R_new' (Kd.R_new' ho0 (Kd.R_lt (by (with_reducible repeat (first | apply Kd.R_alloc | apply Kd.R_drewN | apply Kd.R_drew)); exact HO190.out))) (Kd.R_lt (by (with_reducible repeat (first | apply Kd.R_alloc | apply Kd.R_drewN | apply Kd.R_drew)); exact HO193.out))) (below_size (by repeat (first | (with_reducible first | exact HB.out | apply below_alloc | apply pw_below_drewN | apply below_drew1 | refine below_set ?_ GE187.out) | exact HB.out))))
                have n3_ := Aside0.mk (blk_below (g := gb187) (o := .cells #[.int .i64 a2_0, .int .i64 a2_1, .string a2_2] 60 (0, 0)) (by (with_reducible repeat (first | refine blk_drewN ?_ _ | refine blk_drew ?_ | refine blk_alloc ?_ _)); exact BK187.out) hb)
                have n4_ := Aside0.mk (below_step (by repeat (first | (with_reducible first | exact HB.out | apply below_alloc | apply pw_below_drewN | apply below_drew1 | refine below_set ?_ GE187.out) | exact HB.out)) hb)
                have z_HO199 := fun (h0_ : b 11 = true) (h1_ : b 15 = false) => (show Kd.R (Kd.int .u8) 5 w20 w.heap.size (fun _ => True) v198 y197 from by first | exact (Kd.R_elder' (by (with_reducible repeat (first | apply Kd.R_alloc | apply Kd.R_drewN | apply Kd.R_drew)); exact (Q_HO199 h0_ h1_)) (Kd.R_base ho0) hb) | exact Kd.R_mono (Kd.R_elder' (by (with_reducible repeat (first | apply Kd.R_alloc | apply Kd.R_drewN | apply Kd.R_drew)); exact (Q_HO199 h0_ h1_)) (Kd.R_base ho0) hb) (fun _ h_ => by first | trivial | exact h_ | exact h_.1))
                have z_HO202 := fun (h0_ : b 14 = true) => (show Kd.V (Kd.int .u8) 5 w20 w.heap.size (fun k_ => k_ ≠ gb187) v201 y200 from by first | exact (Kd.V_elder' (by (with_reducible repeat (first | apply Kd.V_alloc | apply Kd.V_drewN | apply Kd.V_drew)); exact (Q_HO202 h0_)) (Kd.R_base ho0) hb) | exact Kd.V_mono (Kd.V_elder' (by (with_reducible repeat (first | apply Kd.V_alloc | apply Kd.V_drewN | apply Kd.V_drew)); exact (Q_HO202 h0_)) (Kd.R_base ho0) hb) (fun _ h_ => by first | trivial | exact h_ | exact h_.1))
                clear HO190
                clear HO193
                clear BK187
                clear HB
                have HO190 := n0_
                have HO193 := n1_
                have HO196 := n2_
                have BK187 := n3_
                have HB := n4_
                clear n0_ n1_ n2_ n3_ n4_
                (try clear hb)
                (try clear hb2)
                (try clear hk)
                (try clear hi)
                (try clear ho0)
                refine hK.out _ _ ⟨v189, v192, v195, v198, v201, v204, v207, m17_, (by rw [ha.out]; exact putSel_upk 7 hb_ rfl rfl rfl), (by (with_reducible repeat (first | refine blk_drewN ?_ _ | refine blk_drew ?_ | refine blk_alloc ?_ _)); exact BK187.out), (by repeat (first | (with_reducible first | exact HB.out | apply below_alloc | apply pw_below_drewN | apply below_drew1 | refine below_set ?_ GE187.out) | exact HB.out)), fun _ _ => (by (with_reducible repeat (first | apply Kd.R_alloc | apply Kd.R_drewN | apply Kd.R_drew)); first | exact HO190.out | exact Kd.R_mono HO190.out (fun _ h_ => by first | trivial | exact h_ | exact h_.1)), fun _ _ => (by (with_reducible repeat (first | apply Kd.R_alloc | apply Kd.R_drewN | apply Kd.R_drew)); first | exact HO193.out | exact Kd.R_mono HO193.out (fun _ h_ => by first | trivial | exact h_ | exact h_.1)), fun _ _ => (by (with_reducible repeat (first | apply Kd.R_alloc | apply Kd.R_drewN | apply Kd.R_drew)); exact Kd.R_mono HO196.out (fun _ hk => by first | exact ⟨hk.1.2, hk.2⟩ | exact hk.2 | exact hk.1 | exact hk | exact hk.1.2 | exact hk.1.1 | exact hk.2.1 | exact hk.2.2)), z_HO199, z_HO202, fun h0_ => absurd ((hoff 15 (by kernel_rfl)).symm.trans h0_) (by decide), fun h0_ => absurd ((hoff 16 (by kernel_rfl)).symm.trans h0_) (by decide), fun h0_ => absurd ((hoff 17 (by kernel_rfl)).symm.trans h0_) (by decide)⟩
              refine steps_cons ?_ ?_
              · rintro b a w' ⟨v189, v192, v195, v198, v201, v204, v207, m17_, ha, Q_BK187, Q_HB, Q_HO190, Q_HO193, Q_HO196, Q_HO199, Q_HO202, Q_HO205, Q_HO208, Q_X17_⟩ hb_ hon hoff
                refine ⟨_, rfl, fun K hK => ?_⟩
                replace ha := Aside0.mk ha
                have BK187 := Aside0.mk Q_BK187
                have HB := Aside0.mk Q_HB
                refine Kd.R_make_step (Kd.int .u8) _ 5 (by rfl) (N := 20) rfl 22 _ _ rfl 2 rfl rfl Try.underlying22 (.int .u8 0) 1 info5 rfl (by decide) (by omega) 0 (ok := fun _ => True) (okp := fun _ => True) rfl (fun _ hk => hk) trivial (by omega) (by omega) (Below.refl _ _) (Nat.le_refl _) ?_
                intro v198 w17 ho18 hb hg_ hnew_
                clear hg_ hnew_
                (first | rw [← Ny197.out] at ho18 | (simp only [Int.reduceToNat] at ho18; rw [← Ny197.out] at ho18))
                have n0_ := Aside0.mk (Kd.R_lower ho18 (below_size (by repeat (first | (with_reducible first | exact HB.out | apply below_alloc | apply pw_below_drewN | apply below_drew1 | refine below_set ?_ GE187.out) | exact HB.out))))
                have n1_ := Aside0.mk (blk_below (g := gb187) (o := .cells #[.int .i64 a2_0, .int .i64 a2_1, .string a2_2] 60 (0, 0)) (by (with_reducible repeat (first | refine blk_drewN ?_ _ | refine blk_drew ?_ | refine blk_alloc ?_ _)); exact BK187.out) hb)
                have n2_ := Aside0.mk (below_step (by repeat (first | (with_reducible first | exact HB.out | apply below_alloc | apply pw_below_drewN | apply below_drew1 | refine below_set ?_ GE187.out) | exact HB.out)) hb)
                have z_HO190 := fun (h0_ : b 2 = true) (h1_ : b 15 = false) => (show Kd.R (Kd.int .u8) 5 w17 w.heap.size (fun _ => True) v189 t188 from by first | exact (Kd.R_elder' (by (with_reducible repeat (first | apply Kd.R_alloc | apply Kd.R_drewN | apply Kd.R_drew)); exact (Q_HO190 h0_ h1_)) (Kd.R_base ho18) hb) | exact Kd.R_mono (Kd.R_elder' (by (with_reducible repeat (first | apply Kd.R_alloc | apply Kd.R_drewN | apply Kd.R_drew)); exact (Q_HO190 h0_ h1_)) (Kd.R_base ho18) hb) (fun _ h_ => by first | trivial | exact h_ | exact h_.1))
                have z_HO193 := fun (h0_ : b 5 = true) (h1_ : b 15 = false) => (show Kd.R (Kd.int .u8) 5 w17 w.heap.size (fun _ => True) v192 t191 from by first | exact (Kd.R_elder' (by (with_reducible repeat (first | apply Kd.R_alloc | apply Kd.R_drewN | apply Kd.R_drew)); exact (Q_HO193 h0_ h1_)) (Kd.R_base ho18) hb) | exact Kd.R_mono (Kd.R_elder' (by (with_reducible repeat (first | apply Kd.R_alloc | apply Kd.R_drewN | apply Kd.R_drew)); exact (Q_HO193 h0_ h1_)) (Kd.R_base ho18) hb) (fun _ h_ => by first | trivial | exact h_ | exact h_.1))
                have z_HO196 := fun (h0_ : b 10 = true) (h1_ : b 15 = false) => (show Kd.R (Kd.int .u8) 5 w17 w.heap.size (fun _ => True) v195 t194 from by first | exact (Kd.R_elder' (by (with_reducible repeat (first | apply Kd.R_alloc | apply Kd.R_drewN | apply Kd.R_drew)); exact (Q_HO196 h0_ h1_)) (Kd.R_base ho18) hb) | exact Kd.R_mono (Kd.R_elder' (by (with_reducible repeat (first | apply Kd.R_alloc | apply Kd.R_drewN | apply Kd.R_drew)); exact (Q_HO196 h0_ h1_)) (Kd.R_base ho18) hb) (fun _ h_ => by first | trivial | exact h_ | exact h_.1))
                have z_HO202 := fun (h0_ : b 14 = true) => (show Kd.V (Kd.int .u8) 5 w17 w.heap.size (fun k_ => k_ ≠ gb187) v201 y200 from by first | exact (Kd.V_elder' (by (with_reducible repeat (first | apply Kd.V_alloc | apply Kd.V_drewN | apply Kd.V_drew)); exact (Q_HO202 h0_)) (Kd.R_base ho18) hb) | exact Kd.V_mono (Kd.V_elder' (by (with_reducible repeat (first | apply Kd.V_alloc | apply Kd.V_drewN | apply Kd.V_drew)); exact (Q_HO202 h0_)) (Kd.R_base ho18) hb) (fun _ h_ => by first | trivial | exact h_ | exact h_.1))
                clear BK187
                clear HB
                have HO199 := n0_
                have BK187 := n1_
                have HB := n2_
                clear n0_ n1_ n2_
                clear hb ho18
                refine hK.out _ _ ⟨v189, v192, v195, v198, v201, v204, v207, m17_, (by rw [ha.out]; exact putSel_upk 8 hb_ rfl rfl rfl), (by (with_reducible repeat (first | refine blk_drewN ?_ _ | refine blk_drew ?_ | refine blk_alloc ?_ _)); exact BK187.out), (by repeat (first | (with_reducible first | exact HB.out | apply below_alloc | apply pw_below_drewN | apply below_drew1 | refine below_set ?_ GE187.out) | exact HB.out)), z_HO190, z_HO193, z_HO196, fun _ _ => (by (with_reducible repeat (first | apply Kd.R_alloc | apply Kd.R_drewN | apply Kd.R_drew)); first | exact HO199.out | exact Kd.R_mono HO199.out (fun _ h_ => by first | trivial | exact h_ | exact h_.1)), z_HO202, fun h0_ => absurd ((hoff 15 (by kernel_rfl)).symm.trans h0_) (by decide), fun h0_ => absurd ((hoff 16 (by kernel_rfl)).symm.trans h0_) (by decide), fun h0_ => absurd ((hoff 17 (by kernel_rfl)).symm.trans h0_) (by decide)⟩
              refine steps_cons ?_ ?_
              · rintro b a w' ⟨v189, v192, v195, v198, v201, v204, v207, m17_, ha, Q_BK187, Q_HB, Q_HO190, Q_HO193, Q_HO196, Q_HO199, Q_HO202, Q_HO205, Q_HO208, Q_X17_⟩ hb_ hon hoff
                refine ⟨_, rfl, fun K hK => ?_⟩
                have e21 : a.tmps[21]? = some (.pointer (some ⟨gb187, 2, none⟩)) := by rw [ha]; exact (putSel_off rfl).trans rfl
                replace ha := Aside0.mk ha
                have BK187 := Aside0.mk Q_BK187
                have HB := Aside0.mk Q_HB
                have hc0_ : w'.cell? ⟨gb187, 0, none⟩ = some (.int .i64 a2_0) := (blk_cell BK187.out 0).trans rfl
                have hc1_ : w'.cell? ⟨gb187, 1, none⟩ = some (.int .i64 a2_1) := (blk_cell BK187.out 1).trans rfl
                have hc2_ : w'.cell? ⟨gb187, 2, none⟩ = some (.string a2_2) := (blk_cell BK187.out 2).trans rfl
                refine value_ (w1 := w') (v := .string a2_2) (by rfl) rfl ?_ ?_
                · go_simp
                  (try simp only [i64_w])
                  try rfl
                refine hK.out _ _ ⟨v189, v192, v195, v198, v201, v204, v207, m17_, (by rw [ha.out]; exact putSel_upk 9 hb_ rfl rfl rfl), Q_BK187, Q_HB, Q_HO190, Q_HO193, Q_HO196, Q_HO199, fun h0_ => absurd ((hoff 14 (by kernel_rfl)).symm.trans h0_) (by decide), fun h0_ => absurd ((hoff 15 (by kernel_rfl)).symm.trans h0_) (by decide), fun h0_ => absurd ((hoff 16 (by kernel_rfl)).symm.trans h0_) (by decide), fun h0_ => absurd ((hoff 17 (by kernel_rfl)).symm.trans h0_) (by decide)⟩
              refine steps_cons ?_ ?_
              · rintro b a w' ⟨v189, v192, v195, v198, v201, v204, v207, m17_, ha, Q_BK187, Q_HB, Q_HO190, Q_HO193, Q_HO196, Q_HO199, Q_HO202, Q_HO205, Q_HO208, Q_X17_⟩ hb_ hon hoff
                refine ⟨_, rfl, fun K hK => ?_⟩
                have e22 : a.tmps[22]? = some (.string a2_2) := by rw [ha]; exact putSel_on (e := (13, 22, .string a2_2)) 9 rfl rfl (hon 13 (by kernel_rfl)) rfl
                replace ha := Aside0.mk ha
                have BK187 := Aside0.mk Q_BK187
                have HB := Aside0.mk Q_HB
                refine Kd.V_make_step _ 5 (by rfl) (N' := 23) rfl 9 22 _ rfl a2_2 (by first | rfl | exact eval_tmp (by assumption)) Try.underlying9 Try.underlying22 Try.underlying5 (ok := fun k_ => w'.heap.size ≤ k_) (Nat.le_refl _) (of_decide_eq_true (by first | (with_reducible assumption) | assumption) : a2_2.size ≤ 140737488355328) (Below.refl _ _) (Nat.le_refl _) ?_
                intro v201 w17 ho18 hb hg_ hnew_
                clear hg_ hnew_
                (first | rw [← Ny200.out] at ho18 | (simp only [Int.reduceToNat] at ho18; rw [← Ny200.out] at ho18))
                have n0_ := Aside0.mk (Kd.V_lower (Kd.V_mono (ok' := fun k_ => k_ ≠ gb187) ho18 (fun k_ hk_ => (Kd.freshB (g := gb187) (o := .cells #[.int .i64 a2_0, .int .i64 a2_1, .string a2_2] 60 (0, 0)) (by (with_reducible repeat (first | refine blk_drewN ?_ _ | refine blk_drew ?_ | refine blk_alloc ?_ _)); exact BK187.out) k_ hk_))) (below_size (by repeat (first | (with_reducible first | exact HB.out | apply below_alloc | apply pw_below_drewN | apply below_drew1 | refine below_set ?_ GE187.out) | exact HB.out))))
                have n1_ := Aside0.mk (blk_below (g := gb187) (o := .cells #[.int .i64 a2_0, .int .i64 a2_1, .string a2_2] 60 (0, 0)) (by (with_reducible repeat (first | refine blk_drewN ?_ _ | refine blk_drew ?_ | refine blk_alloc ?_ _)); exact BK187.out) hb)
                have n2_ := Aside0.mk (below_step (by repeat (first | (with_reducible first | exact HB.out | apply below_alloc | apply pw_below_drewN | apply below_drew1 | refine below_set ?_ GE187.out) | exact HB.out)) hb)
                have z_HO190 := fun (h0_ : b 2 = true) (h1_ : b 15 = false) => (show Kd.R (Kd.int .u8) 5 w17 w.heap.size (fun _ => True) v189 t188 from by first | exact (Kd.R_below (by (with_reducible repeat (first | apply Kd.R_alloc | apply Kd.R_drewN | apply Kd.R_drew)); exact (Q_HO190 h0_ h1_)) hb) | exact Kd.R_mono (Kd.R_below (by (with_reducible repeat (first | apply Kd.R_alloc | apply Kd.R_drewN | apply Kd.R_drew)); exact (Q_HO190 h0_ h1_)) hb) (fun _ h_ => by first | trivial | exact h_ | exact h_.1))
                have z_HO193 := fun (h0_ : b 5 = true) (h1_ : b 15 = false) => (show Kd.R (Kd.int .u8) 5 w17 w.heap.size (fun _ => True) v192 t191 from by first | exact (Kd.R_below (by (with_reducible repeat (first | apply Kd.R_alloc | apply Kd.R_drewN | apply Kd.R_drew)); exact (Q_HO193 h0_ h1_)) hb) | exact Kd.R_mono (Kd.R_below (by (with_reducible repeat (first | apply Kd.R_alloc | apply Kd.R_drewN | apply Kd.R_drew)); exact (Q_HO193 h0_ h1_)) hb) (fun _ h_ => by first | trivial | exact h_ | exact h_.1))
                have z_HO196 := fun (h0_ : b 10 = true) (h1_ : b 15 = false) => (show Kd.R (Kd.int .u8) 5 w17 w.heap.size (fun _ => True) v195 t194 from by first | exact (Kd.R_below (by (with_reducible repeat (first | apply Kd.R_alloc | apply Kd.R_drewN | apply Kd.R_drew)); exact (Q_HO196 h0_ h1_)) hb) | exact Kd.R_mono (Kd.R_below (by (with_reducible repeat (first | apply Kd.R_alloc | apply Kd.R_drewN | apply Kd.R_drew)); exact (Q_HO196 h0_ h1_)) hb) (fun _ h_ => by first | trivial | exact h_ | exact h_.1))
                have z_HO199 := fun (h0_ : b 11 = true) (h1_ : b 15 = false) => (show Kd.R (Kd.int .u8) 5 w17 w.heap.size (fun _ => True) v198 y197 from by first | exact (Kd.R_below (by (with_reducible repeat (first | apply Kd.R_alloc | apply Kd.R_drewN | apply Kd.R_drew)); exact (Q_HO199 h0_ h1_)) hb) | exact Kd.R_mono (Kd.R_below (by (with_reducible repeat (first | apply Kd.R_alloc | apply Kd.R_drewN | apply Kd.R_drew)); exact (Q_HO199 h0_ h1_)) hb) (fun _ h_ => by first | trivial | exact h_ | exact h_.1))
                clear BK187
                clear HB
                have HO202 := n0_
                have BK187 := n1_
                have HB := n2_
                clear n0_ n1_ n2_
                clear hb ho18
                refine hK.out _ _ ⟨v189, v192, v195, v198, v201, v204, v207, m17_, (by rw [ha.out]; exact putSel_upk 10 hb_ rfl rfl rfl), (by (with_reducible repeat (first | refine blk_drewN ?_ _ | refine blk_drew ?_ | refine blk_alloc ?_ _)); exact BK187.out), (by repeat (first | (with_reducible first | exact HB.out | apply below_alloc | apply pw_below_drewN | apply below_drew1 | refine below_set ?_ GE187.out) | exact HB.out)), z_HO190, z_HO193, z_HO196, z_HO199, fun _ => (by (with_reducible repeat (first | apply Kd.V_alloc | apply Kd.V_drewN | apply Kd.V_drew)); exact HO202.out), fun h0_ => absurd ((hoff 15 (by kernel_rfl)).symm.trans h0_) (by decide), fun h0_ => absurd ((hoff 16 (by kernel_rfl)).symm.trans h0_) (by decide), fun h0_ => absurd ((hoff 17 (by kernel_rfl)).symm.trans h0_) (by decide)⟩
              refine steps_cons ?_ ?_
              · rintro b a w' ⟨v189, v192, v195, v198, v201, v204, v207, m17_, ha, Q_BK187, Q_HB, Q_HO190, Q_HO193, Q_HO196, Q_HO199, Q_HO202, Q_HO205, Q_HO208, Q_X17_⟩ hb_ hon hoff
                refine ⟨_, rfl, fun K hK => ?_⟩
                have e11 : a.tmps[11]? = some (v189) := by rw [ha]; exact putSel_on (e := (2, 11, v189)) 1 rfl rfl (hon 2 (by kernel_rfl)) rfl
                have e14 : a.tmps[14]? = some (v192) := by rw [ha]; exact putSel_on (e := (5, 14, v192)) 3 rfl rfl (hon 5 (by kernel_rfl)) rfl
                have e19 : a.tmps[19]? = some (v195) := by rw [ha]; exact putSel_on (e := (10, 19, v195)) 7 rfl rfl (hon 10 (by kernel_rfl)) rfl
                have e20 : a.tmps[20]? = some (v198) := by rw [ha]; exact putSel_on (e := (11, 20, v198)) 8 rfl rfl (hon 11 (by kernel_rfl)) rfl
                have e23 : a.tmps[23]? = some (v201) := by rw [ha]; exact putSel_on (e := (14, 23, v201)) 10 rfl rfl (hon 14 (by kernel_rfl)) rfl
                replace ha := Aside0.mk ha
                have BK187 := Aside0.mk Q_BK187
                have HB := Aside0.mk Q_HB
                have HO190 := Aside0.mk (Q_HO190 (hon 2 (by kernel_rfl)) hb_)
                have HO193 := Aside0.mk (Q_HO193 (hon 5 (by kernel_rfl)) hb_)
                have HO196 := Aside0.mk (Q_HO196 (hon 10 (by kernel_rfl)) hb_)
                have HO199 := Aside0.mk (Q_HO199 (hon 11 (by kernel_rfl)) hb_)
                have HO202 := Aside0.mk (Q_HO202 (hon 14 (by kernel_rfl)))
                obtain ⟨Ao25, co25, eo25⟩ := Kd.R_slice HO190.out
                (first | subst eo25 | (injection eo25 with f1_ f2_ f3_; have f4_ := f1_.symm; have f5_ := f3_.symm; clear f1_ f2_ f3_; subst f4_; subst f5_))
                obtain ⟨Ao26, co26, eo26⟩ := Kd.R_slice HO193.out
                (first | subst eo26 | (injection eo26 with f1_ f2_ f3_; have f4_ := f1_.symm; have f5_ := f3_.symm; clear f1_ f2_ f3_; subst f4_; subst f5_))
                obtain ⟨Ao27, co27, eo27⟩ := Kd.R_slice HO196.out
                (first | subst eo27 | (injection eo27 with f1_ f2_ f3_; have f4_ := f1_.symm; have f5_ := f3_.symm; clear f1_ f2_ f3_; subst f4_; subst f5_))
                obtain ⟨Ao28, co28, eo28⟩ := Kd.R_slice HO199.out
                (first | subst eo28 | (injection eo28 with f1_ f2_ f3_; have f4_ := f1_.symm; have f5_ := f3_.symm; clear f1_ f2_ f3_; subst f4_; subst f5_))
                obtain ⟨Ao29, co29, eo29⟩ := Kd.V_slice HO202.out
                (first | subst eo29 | (injection eo29 with f1_ f2_ f3_; have f4_ := f1_.symm; have f5_ := f3_.symm; clear f1_ f2_ f3_; subst f4_; subst f5_))
                refine Kd.N_lit_step (Kd.slice 5 (Kd.int .u8)) _ 22 ?hg (N' := 24) ?hd (xs := ([t188, t191, t194, y197, y200] : List (List Int))) (inner := [.slice Ao25 t188.length co25, .slice Ao26 t191.length co26, .slice Ao27 t194.length co27, .slice Ao28 y197.length co28, .slice Ao29 y200.length co29]) (ok := (fun k_ => k_ ≠ gb187)) (okp := (fun k_ => k_ ≠ gb187)) ?hr ?hp (fun _ hk => hk) ((show ∀ k_, w'.heap.size ≤ k_ → (fun k_ => k_ ≠ gb187) k_ from fun k_ hk => Kd.freshB (g := gb187) (o := .cells #[.int .i64 a2_0, .int .i64 a2_1, .string a2_2] 60 (0, 0)) (by (with_reducible repeat (first | refine blk_drewN ?_ _ | refine blk_drew ?_ | refine blk_alloc ?_ _)); exact BK187.out) k_ hk) _ (Nat.le_refl _)) (Below.refl _ _) (Nat.le_refl _) (by simp) ?_; (case hd => rfl); (case hg => rfl); (case hr => first | (go_simp; done) | (go_simp; rfl)); (case hp => exact (Reps.one (show Kd.FK (Kd.slice 5 (Kd.int .u8)) _ _ t188 [.slice Ao25 t188.length co25] from (Kd.FK_slice_mk (Kd.R_reads' (Kd.R_mono (ok' := (fun k_ => k_ ≠ gb187)) (Kd.R_types (HO190.out) BK187.out (by decide)) (fun k_ hk => by first | exact hk.2 | exact hk.2 | exact hk.1 | exact hk | exact hk.1.2 | exact hk.1.1 | exact hk.2.1 | exact hk.2.2))).2.1 (Kd.R_F (Kd.R_mono (ok' := (fun k_ => k_ ≠ gb187)) (Kd.R_types (HO190.out) BK187.out (by decide)) (fun k_ hk => by first | exact hk.2 | exact hk.2 | exact hk.1 | exact hk | exact hk.1.2 | exact hk.1.1 | exact hk.2.1 | exact hk.2.2))))) (Reps.one (show Kd.FK (Kd.slice 5 (Kd.int .u8)) _ _ t191 [.slice Ao26 t191.length co26] from (Kd.FK_slice_mk (Kd.R_reads' (Kd.R_mono (ok' := (fun k_ => k_ ≠ gb187)) (Kd.R_types (HO193.out) BK187.out (by decide)) (fun k_ hk => by first | exact hk.2 | exact hk.2 | exact hk.1 | exact hk | exact hk.1.2 | exact hk.1.1 | exact hk.2.1 | exact hk.2.2))).2.1 (Kd.R_F (Kd.R_mono (ok' := (fun k_ => k_ ≠ gb187)) (Kd.R_types (HO193.out) BK187.out (by decide)) (fun k_ hk => by first | exact hk.2 | exact hk.2 | exact hk.1 | exact hk | exact hk.1.2 | exact hk.1.1 | exact hk.2.1 | exact hk.2.2))))) (Reps.one (show Kd.FK (Kd.slice 5 (Kd.int .u8)) _ _ t194 [.slice Ao27 t194.length co27] from (Kd.FK_slice_mk (Kd.R_reads' (Kd.R_mono (ok' := (fun k_ => k_ ≠ gb187)) (Kd.R_types (HO196.out) BK187.out (by decide)) (fun k_ hk => by first | exact hk.2 | exact hk.2 | exact hk.1 | exact hk | exact hk.1.2 | exact hk.1.1 | exact hk.2.1 | exact hk.2.2))).2.1 (Kd.R_F (Kd.R_mono (ok' := (fun k_ => k_ ≠ gb187)) (Kd.R_types (HO196.out) BK187.out (by decide)) (fun k_ hk => by first | exact hk.2 | exact hk.2 | exact hk.1 | exact hk | exact hk.1.2 | exact hk.1.1 | exact hk.2.1 | exact hk.2.2))))) (Reps.one (show Kd.FK (Kd.slice 5 (Kd.int .u8)) _ _ y197 [.slice Ao28 y197.length co28] from (Kd.FK_slice_mk (Kd.R_reads' (Kd.R_mono (ok' := (fun k_ => k_ ≠ gb187)) (Kd.R_types (HO199.out) BK187.out (by decide)) (fun k_ hk => by first | exact hk.2 | exact hk.2 | exact hk.1 | exact hk | exact hk.1.2 | exact hk.1.1 | exact hk.2.1 | exact hk.2.2))).2.1 (Kd.R_F (Kd.R_mono (ok' := (fun k_ => k_ ≠ gb187)) (Kd.R_types (HO199.out) BK187.out (by decide)) (fun k_ hk => by first | exact hk.2 | exact hk.2 | exact hk.1 | exact hk | exact hk.1.2 | exact hk.1.1 | exact hk.2.1 | exact hk.2.2))))) (Reps.one (show Kd.FK (Kd.slice 5 (Kd.int .u8)) _ _ y200 [.slice Ao29 y200.length co29] from (Kd.FK_slice_mk (Kd.V_reads' (Kd.V_mono (ok' := (fun k_ => k_ ≠ gb187)) (HO202.out) (fun k_ hk => by first | exact hk.2.2.2.2 | exact hk | exact hk.2 | exact hk.1 | exact hk.1.2 | exact hk.1.1 | exact hk.2.1 | exact hk.2.2))).2.1 (Kd.V_F (Kd.V_mono (ok' := (fun k_ => k_ ≠ gb187)) (HO202.out) (fun k_ hk => by first | exact hk.2.2.2.2 | exact hk | exact hk.2 | exact hk.1 | exact hk.1.2 | exact hk.1.1 | exact hk.2.1 | exact hk.2.2))))) (Reps.none _ _)))))))
                intro v204 w30 ho31 hb hg_ hnew_
                clear hg_ hnew_
                (first | rw [← Ny203.out] at ho31 | (simp only [Int.reduceToNat] at ho31; rw [← Ny203.out] at ho31))
                have n0_ := Aside0.mk (Kd.V_elder' (by (with_reducible repeat (first | apply Kd.V_alloc | apply Kd.V_drewN | apply Kd.V_drew)); exact HO202.out) (Kd.N_base ho31) hb)
                have n1_ := Aside0.mk (Kd.N_lower ho31 (below_size (by repeat (first | (with_reducible first | exact HB.out | apply below_alloc | apply pw_below_drewN | apply below_drew1 | refine below_set ?_ GE187.out) | exact HB.out))))
                have n2_ := Aside0.mk (blk_below (g := gb187) (o := .cells #[.int .i64 a2_0, .int .i64 a2_1, .string a2_2] 60 (0, 0)) (by (with_reducible repeat (first | refine blk_drewN ?_ _ | refine blk_drew ?_ | refine blk_alloc ?_ _)); exact BK187.out) hb)
                have n3_ := Aside0.mk (below_step (by repeat (first | (with_reducible first | exact HB.out | apply below_alloc | apply pw_below_drewN | apply below_drew1 | refine below_set ?_ GE187.out) | exact HB.out)) hb)
                clear HO202
                clear BK187
                clear HB
                clear HO190
                clear HO193
                clear HO196
                clear HO199
                have HO202 := n0_
                have HO205 := n1_
                have BK187 := n2_
                have HB := n3_
                clear n0_ n1_ n2_ n3_
                clear hb ho31
                refine hK.out _ _ ⟨.slice Ao25 t188.length co25, .slice Ao26 t191.length co26, .slice Ao27 t194.length co27, .slice Ao28 y197.length co28, .slice Ao29 y200.length co29, v204, v207, m17_, (by rw [ha.out]; exact putSel_upk 11 hb_ rfl rfl rfl), (by (with_reducible repeat (first | refine blk_drewN ?_ _ | refine blk_drew ?_ | refine blk_alloc ?_ _)); exact BK187.out), (by repeat (first | (with_reducible first | exact HB.out | apply below_alloc | apply pw_below_drewN | apply below_drew1 | refine below_set ?_ GE187.out) | exact HB.out)), fun _ h1_ => absurd ((up_self b 15).symm.trans h1_) (by decide), fun _ h1_ => absurd ((up_self b 15).symm.trans h1_) (by decide), fun _ h1_ => absurd ((up_self b 15).symm.trans h1_) (by decide), fun _ h1_ => absurd ((up_self b 15).symm.trans h1_) (by decide), fun _ => (by (with_reducible repeat (first | apply Kd.V_alloc | apply Kd.V_drewN | apply Kd.V_drew)); exact Kd.V_mono HO202.out (fun _ hk => by first | exact ⟨hk.2, hk.1.2.2.2.2⟩ | exact hk.2 | exact hk.1 | exact hk | exact hk.1.2 | exact hk.1.1 | exact hk.2.1 | exact hk.2.2)), fun _ => (by (with_reducible repeat (first | apply Kd.N_alloc | apply Kd.N_drewN | apply Kd.N_drew)); exact HO205.out), fun h0_ => absurd ((hoff 16 (by kernel_rfl)).symm.trans h0_) (by decide), fun h0_ => absurd ((hoff 17 (by kernel_rfl)).symm.trans h0_) (by decide)⟩
              refine steps_cons ?_ ?_
              · rintro b a w' ⟨v189, v192, v195, v198, v201, v204, v207, m17_, ha, Q_BK187, Q_HB, Q_HO190, Q_HO193, Q_HO196, Q_HO199, Q_HO202, Q_HO205, Q_HO208, Q_X17_⟩ hb_ hon hoff
                refine ⟨_, rfl, fun K hK => ?_⟩
                have e24 : a.tmps[24]? = some (v204) := by rw [ha]; exact putSel_on (e := (15, 24, v204)) 11 rfl rfl (hon 15 (by kernel_rfl)) rfl
                replace ha := Aside0.mk ha
                have BK187 := Aside0.mk Q_BK187
                have HB := Aside0.mk Q_HB
                have HO202 := Aside0.mk (Q_HO202 (hon 14 (by kernel_rfl)))
                have HO205 := Aside0.mk (Q_HO205 (hon 15 (by kernel_rfl)))
                obtain ⟨Ao32, co32, eo32⟩ := Kd.N_slice HO205.out
                (first | subst eo32 | (injection eo32 with f1_ f2_ f3_; have f4_ := f1_.symm; have f5_ := f3_.symm; clear f1_ f2_ f3_; subst f4_; subst f5_))
                refine goes_ Try.func74 (by kernel_rfl) rfl #[.slice Ao32 y203.length co32] (by rfl) rfl rfl (by first | (simp only [List.map_toArray, List.map_cons, List.map_nil, Act.eval, Array.getD_eq_getD_getElem?, Option.getD_some, e24]; done) | (simp only [List.map_toArray, List.map_cons, List.map_nil, Act.eval, Array.getD_eq_getD_getElem?, Option.getD_some, e24]; rfl)) ?_
                with_reducible refine (slices_Concat_byte_byte.calls k _ _ y203 t206 _ ?side1 ?side2 A9.out).mono ?_
                (case side1 => repeat (first | exact (Kd.N_reads' HO205.out).2.2 | (with_reducible refine Kd.C_alloc ?_ _) | (with_reducible refine Kd.C_drewN ?_ _) | (with_reducible refine Kd.C_drew ?_)))
                (case side2 => exact (Kd.N_reads' HO205.out).2.1)
                rintro e w33 ⟨v207, rfl, ho0, hb⟩
                refine ⟨_, rfl, ?_⟩
                have n0_ := Aside0.mk (Kd.V_elder' (by (with_reducible repeat (first | apply Kd.V_alloc | apply Kd.V_drewN | apply Kd.V_drew)); exact HO202.out) (Kd.R_base ho0) hb)
                have n1_ := Aside0.mk (Kd.N_elder' (by (with_reducible repeat (first | apply Kd.N_alloc | apply Kd.N_drewN | apply Kd.N_drew)); exact HO205.out) (Kd.R_base ho0) hb)
                have n2_ := Aside0.mk (Kd.R_lower ho0 (below_size (by repeat (first | (with_reducible first | exact HB.out | apply below_alloc | apply pw_below_drewN | apply below_drew1 | refine below_set ?_ GE187.out) | exact HB.out))))
                have n3_ := Aside0.mk (blk_below (g := gb187) (o := .cells #[.int .i64 a2_0, .int .i64 a2_1, .string a2_2] 60 (0, 0)) (by (with_reducible repeat (first | refine blk_drewN ?_ _ | refine blk_drew ?_ | refine blk_alloc ?_ _)); exact BK187.out) hb)
                have n4_ := Aside0.mk (below_step (by repeat (first | (with_reducible first | exact HB.out | apply below_alloc | apply pw_below_drewN | apply below_drew1 | refine below_set ?_ GE187.out) | exact HB.out)) hb)
                clear HO202
                clear HO205
                clear BK187
                clear HB
                have HO202 := n0_
                have HO205 := n1_
                have HO208 := n2_
                have BK187 := n3_
                have HB := n4_
                clear n0_ n1_ n2_ n3_ n4_
                (try clear hb)
                (try clear hb2)
                (try clear hk)
                (try clear hi)
                (try clear ho0)
                refine hK.out _ _ ⟨v189, v192, v195, v198, v201, .slice Ao32 y203.length co32, v207, m17_, (by rw [ha.out]; exact putSel_upk 12 hb_ rfl rfl rfl), (by (with_reducible repeat (first | refine blk_drewN ?_ _ | refine blk_drew ?_ | refine blk_alloc ?_ _)); exact BK187.out), (by repeat (first | (with_reducible first | exact HB.out | apply below_alloc | apply pw_below_drewN | apply below_drew1 | refine below_set ?_ GE187.out) | exact HB.out)), fun _ h1_ => absurd ((hon 15 (by kernel_rfl)).symm.trans h1_) (by decide), fun _ h1_ => absurd ((hon 15 (by kernel_rfl)).symm.trans h1_) (by decide), fun _ h1_ => absurd ((hon 15 (by kernel_rfl)).symm.trans h1_) (by decide), fun _ h1_ => absurd ((hon 15 (by kernel_rfl)).symm.trans h1_) (by decide), fun _ => (by (with_reducible repeat (first | apply Kd.V_alloc | apply Kd.V_drewN | apply Kd.V_drew)); exact Kd.V_mono HO202.out (fun _ hk => by first | exact ⟨hk.1.1, ⟨hk.2, hk.1.2⟩⟩ | exact hk.2 | exact hk.1 | exact hk | exact hk.1.2 | exact hk.1.1 | exact hk.2.1 | exact hk.2.2)), fun _ => (by (with_reducible repeat (first | apply Kd.N_alloc | apply Kd.N_drewN | apply Kd.N_drew)); exact Kd.N_mono HO205.out (fun _ hk => by first | exact ⟨hk.2, hk.1⟩ | exact hk.2 | exact hk.1 | exact hk | exact hk.1.2 | exact hk.1.1 | exact hk.2.1 | exact hk.2.2)), fun _ => (by (with_reducible repeat (first | apply Kd.R_alloc | apply Kd.R_drewN | apply Kd.R_drew)); first | exact HO208.out | exact Kd.R_mono HO208.out (fun _ h_ => by first | trivial | exact h_ | exact h_.1)), fun h0_ => absurd ((hoff 17 (by kernel_rfl)).symm.trans h0_) (by decide)⟩
              refine steps_cons ?_ ?_
              · rintro b a w' ⟨v189, v192, v195, v198, v201, v204, v207, m17_, ha, Q_BK187, Q_HB, Q_HO190, Q_HO193, Q_HO196, Q_HO199, Q_HO202, Q_HO205, Q_HO208, Q_X17_⟩ hb_ hon hoff
                refine ⟨_, rfl, fun K hK => ?_⟩
                have e25 : a.tmps[25]? = some (v207) := by rw [ha]; exact putSel_on (e := (16, 25, v207)) 12 rfl rfl (hon 16 (by kernel_rfl)) rfl
                replace ha := Aside0.mk ha
                have BK187 := Aside0.mk Q_BK187
                have HB := Aside0.mk Q_HB
                have HO202 := Aside0.mk (Q_HO202 (hon 14 (by kernel_rfl)))
                have HO205 := Aside0.mk (Q_HO205 (hon 15 (by kernel_rfl)))
                have HO208 := Aside0.mk (Q_HO208 (hon 16 (by kernel_rfl)))
                refine value_ (w1 := w') (v := v207) (by rfl) rfl ?_ ?_
                · go_simp
                  (try simp only [i64_w])
                  try rfl
                refine hK.out _ _ ⟨v189, v192, v195, v198, v201, v204, v207, (v207), (by rw [ha.out]; exact putSel_upk 13 hb_ rfl rfl rfl), Q_BK187, Q_HB, fun _ h1_ => absurd ((hon 15 (by kernel_rfl)).symm.trans h1_) (by decide), fun _ h1_ => absurd ((hon 15 (by kernel_rfl)).symm.trans h1_) (by decide), fun _ h1_ => absurd ((hon 15 (by kernel_rfl)).symm.trans h1_) (by decide), fun _ h1_ => absurd ((hon 15 (by kernel_rfl)).symm.trans h1_) (by decide), Q_HO202, Q_HO205, Q_HO208, fun _ => rfl⟩
              exact steps_nil
            rintro b a w33 hall ⟨v189, v192, v195, v198, v201, v204, v207, m17_, ha, Q_BK187, Q_HB, Q_HO190, Q_HO193, Q_HO196, Q_HO199, Q_HO202, Q_HO205, Q_HO208, Q_X17_⟩
            clear BK187 HB
            have hb1_ := hall 1 (by kernel_rfl)
            have hb2_ := hall 2 (by kernel_rfl)
            have hb4_ := hall 4 (by kernel_rfl)
            have hb5_ := hall 5 (by kernel_rfl)
            have hb7_ := hall 7 (by kernel_rfl)
            have hb8_ := hall 8 (by kernel_rfl)
            have hb9_ := hall 9 (by kernel_rfl)
            have hb10_ := hall 10 (by kernel_rfl)
            have hb11_ := hall 11 (by kernel_rfl)
            have hb13_ := hall 13 (by kernel_rfl)
            have hb14_ := hall 14 (by kernel_rfl)
            have hb15_ := hall 15 (by kernel_rfl)
            have hb16_ := hall 16 (by kernel_rfl)
            have hb17_ := hall 17 (by kernel_rfl)
            subst ha
            obtain rfl := Q_X17_ hb17_
            simp only [putSel, hb1_, hb2_, hb4_, hb5_, hb7_, hb8_, hb9_, hb10_, hb11_, hb13_, hb14_, hb15_, hb16_, hb17_, if_true, Act.put, List.setIfInBounds_toArray, List.set_cons_zero, List.set_cons_succ]
            have BK187 := Aside0.mk Q_BK187
            clear Q_BK187
            have HB := Aside0.mk Q_HB
            clear Q_HB
            clear Q_HO190
            clear Q_HO193
            clear Q_HO196
            clear Q_HO199
            have HO202 := Aside0.mk (Q_HO202 hb14_)
            clear Q_HO202
            have HO205 := Aside0.mk (Q_HO205 hb15_)
            clear Q_HO205
            have HO208 := Aside0.mk (Q_HO208 hb16_)
            clear Q_HO208
            clear hall hb1_ hb2_ hb4_ hb5_ hb7_ hb8_ hb9_ hb10_ hb11_ hb13_ hb14_ hb15_ hb16_ hb17_
            obtain ⟨Ao34, co34, eo34⟩ := Kd.R_slice HO208.out
            subst eo34
            try go_wp2_with (first | ((with_reducible refine gate_callee (f := 104) rfl ?_); refine goesL_ (some 29) rfl rfl Try.func104 (by kernel_rfl) rfl #[.int .i64 a0, .int .i64 a1, .int .i64 17, .slice Ao34 t206.length co34] rfl (by (try simp only [List.map_toArray, List.map_cons, List.map_nil]); first | done | rfl | (simp only [List.length_drop, List.length_take]; rfl)) ?_; (with_reducible refine (impl_withEnds.calls k a0 a1 17 (fun k_ => some k_ = (.slice Ao34 t206.length co34 : Value).ownBlock) _ _ t206 t209 _ ?side1 A10.out).mono ?_); (case side1 => exact Kd.R_V (Kd.R_tight rfl (Kd.R_types (Kd.R_apart' (HO208.out) (Kd.N_typed HO205.out) (by decide)) BK187.out (by decide)))); rintro e w35 ⟨rfl, hb⟩; refine ⟨_, rfl, ?_⟩; have n0_ := Aside0.mk (Kd.V_below (by (with_reducible repeat (first | apply Kd.V_alloc | apply Kd.V_drewN | apply Kd.V_drew)); exact HO202.out) hb); have n1_ := Aside0.mk (Kd.N_below (by (with_reducible repeat (first | apply Kd.N_alloc | apply Kd.N_drewN | apply Kd.N_drew)); exact HO205.out) hb); have n2_ := Aside0.mk (Kd.R_below (by (with_reducible repeat (first | apply Kd.R_alloc | apply Kd.R_drewN | apply Kd.R_drew)); exact HO208.out) hb); have n3_ := Aside0.mk (blk_below (g := gb187) (o := .cells #[.int .i64 a2_0, .int .i64 a2_1, .string a2_2] 60 (0, 0)) (by (with_reducible repeat (first | refine blk_drewN ?_ _ | refine blk_drew ?_ | refine blk_alloc ?_ _)); exact BK187.out) hb); have n4_ := Aside0.mk (below_step (by repeat (first | (with_reducible first | exact HB.out | apply below_alloc | apply pw_below_drewN | apply below_drew1 | refine below_set ?_ GE187.out) | exact HB.out)) hb); clear HO202; clear HO205; clear HO208; clear BK187; clear HB; have HO202 := n0_; have HO205 := n1_; have HO208 := n2_; have BK187 := n3_; have HB := n4_; clear n0_ n1_ n2_ n3_ n4_; (try clear hb); (try clear hb2); (try clear hk); (try clear hi)))
            have n0_ := Aside0.mk (Kd.V_drew HO202.out)
            have n1_ := Aside0.mk (Kd.N_drew HO205.out)
            have n2_ := Aside0.mk (Kd.R_drew HO208.out)
            have n3_ := Aside0.mk (blk_drew BK187.out)
            have n4_ := Aside0.mk (below_drew1 HB.out)
            clear HO202
            clear HO205
            clear HO208
            clear BK187
            clear HB
            have HO202 := n0_
            have HO205 := n1_
            have HO208 := n2_
            have BK187 := n3_
            have HB := n4_
            clear n0_ n1_ n2_ n3_ n4_
            obtain ⟨go38, co38, eo38, gb38, gl38, cl38, HG38⟩ := Kd.R_form HO208.out (by have hl_ : (6 : Int) ≤ ((t206.length : Int) : Int) := of_decide_eq_true (by first | (with_reducible assumption) | assumption); omega)
            (first | cases eo38 | (injection eo38 with ea_ en_ ec_; (first | subst ea_ | (injection ea_ with ea_; subst ea_)); subst ec_; clear en_))
            have GB38 := Aside0.mk gb38
            have GG38 := Aside0.mk HG38
            clear gb38 gl38 HG38
            have q37 : (6 : Int) ≤ ((t206.length : Int) : Int) := of_decide_eq_true (by first | (with_reducible assumption) | assumption)
            obtain ⟨i037, hi037, _, hsz37, _⟩ := info_parts info5
            have hroom37 : t206.length ≤ co34 := (Kd.R_reads' HO208.out).2.1
            have hC37 : Kd.F (Kd.int .u8) _ _ (some ⟨go38, 0, none⟩) t206.length t206 := (Kd.V_at (base := w.heap.size) (Kd.R_V (Kd.R_types (Kd.R_apart' (HO208.out) (Kd.N_typed HO205.out) (by decide)) BK187.out (by decide)))).2.2
            have hcut37 := cut_from (P := Try.prog) 22 5 .i64 Try.underlying22 hi037 1 hsz37 (some ⟨go38, 0, none⟩) t206.length co34 6 (by omega) q37
            have hr37 := Kd.F_cut (m := (6 : Int).toNat) (c := co34) hC37 (by omega) hroom37
            obtain ⟨A37, hA37⟩ : ∃ A1, A1 = (if co34 = (6 : Int).toNat then (some ⟨go38, 0, none⟩) else ((some ⟨go38, 0, none⟩) : Option Addr).map (·.add ((6 : Int).toNat * 1))) := ⟨_, rfl⟩
            obtain ⟨c37, hc37⟩ : ∃ c1, c1 = co34 - (6 : Int).toNat := ⟨_, rfl⟩
            have hy37 : y210.length = t206.length - (6 : Int).toNat := (by rw [Ny210.out, List.length_drop] <;> omega)
            rw [show (t206).drop (6 : Int).toNat = y210 from Ny210.out.symm] at hr37
            replace hr37 : Kd.F (Kd.int .u8) _ _ A37 y210.length y210 := (by rw [hA37]; exact hr37)
            rw [← hy37, ← hA37, ← hc37] at hcut37
            have HO214 := Aside0.mk (show Kd.V (Kd.int .u8) 5 _ w.heap.size _ (.slice A37 y210.length c37) y210 from Kd.V_mk (by rw [hy37, hc37]; exact Nat.sub_le_sub_right hroom37 _) hr37)
            have HC214 := Aside0.mk (show y210.length ≤ c37 from by rw [hy37, hc37]; exact Nat.sub_le_sub_right hroom37 _)
            clear hr37 hC37 hroom37 hi037 hsz37 hc37
            have KY37 := Aside0.mk hy37
            have KA37 := Aside0.mk hA37
            clear hy37 hA37
            replace q37 := eq_true q37
            refine start_ (n := 5) (S := fun w' => True) (ds := []) #[false, false, false, false, false] (by kernel_rfl) rfl rfl trivial (fun hHeld => ?_)
            generalize w35.drew = w36 at HO202 HO205 HO208 BK187 HB GG38 HO214 hHeld ⊢
            refine pure_ (i := 0) (N := some 32) (v := ?_) (a' := ?_) #[true, false, false, false, false] rfl rfl (by kernel_rfl) (fun _ _ _ h => h) (Or.inl ⟨by rfl, ?_⟩) ?_ ?_
            rotate_left
            · intro w'
              go_simp
              with_reducible rfl
            rotate_left
            · simp only [Act.put, List.setIfInBounds_toArray, List.set_cons_zero, List.set_cons_succ, i64_w, i32_w]
              rfl
            refine pure_ (i := 1) (N := some 33) (v := ?_) (a' := ?_) #[true, true, false, false, false] rfl rfl (by kernel_rfl) (fun _ _ _ h => h) (Or.inl ⟨by rfl, ?_⟩) ?_ ?_
            rotate_left
            · intro w'
              go_simp
              with_reducible rfl
            rotate_left
            · simp only [Act.put, List.setIfInBounds_toArray, List.set_cons_zero, List.set_cons_succ, i64_w, i32_w]
              rfl
            refine pure_ (i := 2) (N := some 34) (v := ?_) (a' := ?_) #[true, true, true, false, false] rfl rfl (by kernel_rfl) (fun _ _ _ h => h) (Or.inl ⟨by rfl, ?_⟩) ?_ ?_
            rotate_left
            · intro w'
              go_simp
              with_reducible rfl
            rotate_left
            · simp only [Act.put, List.setIfInBounds_toArray, List.set_cons_zero, List.set_cons_succ, i64_w, i32_w]
              rfl
            refine one_ (i := 3) (N := some 35) #[true, true, true, true, false] rfl rfl (by kernel_rfl) (by decide) (fun K hK => ?_)
            refine goes_ Try.func62 (by kernel_rfl) rfl #[.int .i64 65535, .int .i64 2] (by rfl) rfl rfl (by (try simp only [List.map_toArray, List.map_cons, List.map_nil]); first | done | rfl | (simp only [List.length_drop, List.length_take]; rfl)) ?_
            with_reducible refine (impl_be.calls k 65535 2 t215 _ A13.out).mono ?_
            rintro e w39 ⟨v216, rfl, ho0, hb⟩
            refine ⟨_, rfl, ?_⟩
            have n0_ := Aside0.mk (Kd.V_elder' (by (with_reducible repeat (first | apply Kd.V_alloc | apply Kd.V_drewN | apply Kd.V_drew)); exact HO202.out) (Kd.R_base ho0) hb)
            have n1_ := Aside0.mk (Kd.N_elder' (by (with_reducible repeat (first | apply Kd.N_alloc | apply Kd.N_drewN | apply Kd.N_drew)); exact HO205.out) (Kd.R_base ho0) hb)
            have n2_ := Aside0.mk (Kd.R_elder' (by (with_reducible repeat (first | apply Kd.R_alloc | apply Kd.R_drewN | apply Kd.R_drew)); exact HO208.out) (Kd.R_base ho0) hb)
            have n3_ := Aside0.mk (Kd.V_elder' (by (with_reducible repeat (first | apply Kd.V_alloc | apply Kd.V_drewN | apply Kd.V_drew)); exact HO214.out) (Kd.R_base ho0) hb)
            have n4_ := Aside0.mk (Kd.R_lower (Kd.R_new' ho0 (Kd.R_lt (by (with_reducible repeat (first | apply Kd.R_alloc | apply Kd.R_drewN | apply Kd.R_drew)); exact HO208.out))) (below_size (by repeat (first | (with_reducible first | exact HB.out | apply below_alloc | apply pw_below_drewN | apply below_drew1 | refine below_set ?_ GE187.out) | exact HB.out))))
            have n5_ := Aside0.mk (blk_below (g := gb187) (o := .cells #[.int .i64 a2_0, .int .i64 a2_1, .string a2_2] 60 (0, 0)) (by (with_reducible repeat (first | refine blk_drewN ?_ _ | refine blk_drew ?_ | refine blk_alloc ?_ _)); exact BK187.out) hb)
            have n6_ := Aside0.mk (below_step (by repeat (first | (with_reducible first | exact HB.out | apply below_alloc | apply pw_below_drewN | apply below_drew1 | refine below_set ?_ GE187.out) | exact HB.out)) hb)
            clear HO202
            clear HO205
            clear HO208
            clear HO214
            clear BK187
            clear HB
            have HO202 := n0_
            have HO205 := n1_
            have HO208 := n2_
            have HO214 := n3_
            have HO217 := n4_
            have BK187 := n5_
            have HB := n6_
            clear n0_ n1_ n2_ n3_ n4_ n5_ n6_
            (try clear hb)
            (try clear hb2)
            (try clear hk)
            (try clear hi)
            (try clear ho0)
            obtain ⟨Ao42, co42, eo42⟩ := Kd.R_slice HO217.out
            (first | subst eo42 | (injection eo42 with f1_ f2_ f3_; have f4_ := f1_.symm; have f5_ := f3_.symm; clear f1_ f2_ f3_; subst f4_; subst f5_))
            have n_ := Aside0.mk (Kd.R_mono (ok' := (fun k_ => some k_ ≠ (.slice Ao42 t215.length co42 : Value).ownBlock)) HO208.out (fun k_ hk => by first | exact hk.2 | exact hk.2 | exact hk.1 | exact hk | exact hk.1.2 | exact hk.1.1 | exact hk.2.1 | exact hk.2.2))
            clear HO208
            have HO208 := n_
            clear n_
            refine hK.out _ _ trivial (fun hHeld => ?_)
            clear hK K
            refine norm_ (a' := ?_) ?_ ?_
            rotate_left
            · show Act.put _ (some 35) _ = _
              simp only [Act.put, List.setIfInBounds_toArray, List.set_cons_zero, List.set_cons_succ, i64_w, i32_w]
              rfl
            refine one_ (i := 4) (N := some 36) #[true, true, true, true, true] rfl rfl (by kernel_rfl) (by decide) (fun K hK => ?_)
            have hl_ := LMc14.out
            have hr_ := (Kd.R_reads' (HO208.out)).1
            refine Kd.R_copy_step (k0 := .u8) (w0 := w) w.heap.size (by rfl) (.tmp 33) (.tmp 35) 22 22 5 rfl Try.underlying22 (by kernel_rfl) (g := go38) (n := t206.length) (c := co34) (k := (6 : Int).toNat) (m := t215.length) (ys := t215) rfl rfl ?hn ?hA (by (with_reducible repeat (first | apply Kd.R_alloc | apply Kd.R_drewN | apply Kd.R_drew)); exact HO208.out) (Kd.R_reads' HO217.out).2.2 ?hk (by repeat (first | (with_reducible first | exact HB.out | apply below_alloc | apply pw_below_drewN | apply below_drew1 | refine below_set ?_ GE187.out) | exact HB.out)) (below_size (by repeat (first | (with_reducible first | exact HB.out | apply below_alloc | apply pw_below_drewN | apply below_drew1 | refine below_set ?_ GE187.out) | exact HB.out))) ?_
            (case hn => exact KY37.out)
            (case hA => exact KA37.out)
            (case hk => omega)
            intro w40 ho hb hg
            clear hl_ hr_
            rw [← Ny218.out] at ho
            have n0_ := Aside0.mk (blk_grown (g := gb187) (o := .cells #[.int .i64 a2_0, .int .i64 a2_1, .string a2_2] 60 (0, 0)) (by (with_reducible repeat (first | refine blk_drewN ?_ _ | refine blk_drew ?_ | refine blk_alloc ?_ _)); exact BK187.out) hg (Kd.R_ne HO208.out BK187.out (by decide)))
            have n1_ := Aside0.mk (ho)
            have n2_ := Aside0.mk (hb)
            clear BK187
            clear HO208
            clear HB
            clear HO202
            clear HO205
            clear HO214
            clear HO217
            have BK187 := n0_
            have HO208 := n1_
            have HB := n2_
            clear n0_ n1_ n2_
            clear ho hb hg
            refine hK.out _ _ trivial (fun hHeld => ?_)
            clear hK K
            refine norm_ (a' := ?_) ?_ ?_
            rotate_left
            · show Act.put _ (some 36) _ = _
              simp only [Act.put, List.setIfInBounds_toArray, List.set_cons_zero, List.set_cons_succ, i64_w, i32_w]
              rfl
            refine done_ (by kernel_rfl) ?_
            try go_wp2
            go_ret
            exact ⟨_, by first | rfl | (simp [errW_none, errW_some] <;> rfl) | (simp [*, errW_none, errW_some] <;> rfl), by (with_reducible repeat (first | apply Kd.R_alloc | apply Kd.R_drewN | apply Kd.R_drew)); exact Kd.R_mono HO208.out (fun _ hk => trivial), by repeat (first | (with_reducible first | exact HB.out | apply below_alloc | apply pw_below_drewN | apply below_drew1 | refine below_set ?_ GE187.out) | exact HB.out)⟩
          · rw [if_neg c14] at H
            exact absurd H (by simp)
        · rw [if_neg c12] at H
          exact absurd H (by simp)
      · rw [if_neg c11] at H
        have c11b0 : (t209 == 0) = false := beq_eq_false_iff_ne.mpr c11
        have c11b1 : (t209 != 0) = true := bne_iff_ne.mpr c11
        by_cases c43 : 6 ≤ (t206.length : Int)
        · rw [if_pos c43] at H
          have c43b0 := eq_true c43
          have c43b1 : decide (6 ≤ (t206.length : Int)) = true := decide_eq_true c43
          clear c43
          obtain ⟨y219, hy219⟩ : ∃ y_ : List Int, y_ = (t206.drop 6) := ⟨_, rfl⟩
          replace H : ((impl_be.f k t209 2).bind fun t224 => (if (6 : Int).toNat + t224.length ≤ t206.length then (some (t206.take (6 : Int).toNat ++ t224 ++ t206.drop ((6 : Int).toNat + t224.length))) else (none))) = some r := by first | (rw [hy219]; with_reducible exact H) | (have H2_ := (Option.bind_some _ _).symm.trans H; rw [hy219]; with_reducible exact H2_) | (have H2_ := (Option.bind_some _ _).symm.trans H; with_reducible exact H2_) | with_reducible exact H | (rw [hy219]; exact H) | exact H
          have Ny219 := Aside0.mk hy219
          clear hy219
          replace H := Option.bind_eq_some_iff.mp H
          obtain ⟨t224, A440, H⟩ := H
          replace H : (if (6 : Int).toNat + t224.length ≤ t206.length then (some (t206.take (6 : Int).toNat ++ t224 ++ t206.drop ((6 : Int).toNat + t224.length))) else (none)) = some r := H
          have A44 := Aside0.mk A440
          clear A440
          by_cases c45 : (6 : Int).toNat + t224.length ≤ t206.length
          · rw [if_pos c45] at H
            have LMc45 := Aside0.mk c45
            clear c45
            obtain ⟨y227, hy227⟩ : ∃ y_ : List Int, y_ = (t206.take (6 : Int).toNat ++ t224 ++ t206.drop ((6 : Int).toNat + t224.length)) := ⟨_, rfl⟩
            replace H : (some y227) = some r := by first | (rw [hy227]; with_reducible exact H) | (have H2_ := (Option.bind_some _ _).symm.trans H; rw [hy227]; with_reducible exact H2_) | (have H2_ := (Option.bind_some _ _).symm.trans H; with_reducible exact H2_) | with_reducible exact H | (rw [hy227]; exact H) | exact H
            have Ny227 := Aside0.mk hy227
            clear hy227
            obtain rfl := Option.some.inj H
            go_enter Try.func83, Try.ntmps83
            try go_wp2_with (first | ((with_reducible refine gate_dst (N := 5) rfl ?_); refine box_event ?hg (N := 5) ?hd (cs := #[.int .i64 a2_0, .int .i64 a2_1, .string a2_2]) (t := 60) ?hr ?_; (case hd => rfl); (case hg => rfl); (case hr => first | (go_simp; done) | (go_simp; rfl)); intro gb187 hg w46 hbox hb; have n0_ := Aside0.mk (below_step (by repeat (first | (with_reducible first | exact HB.out | apply below_alloc | apply pw_below_drewN | apply below_drew1) | exact HB.out)) hb); have n1_ := Aside0.mk (hbox); have n2_ := Aside0.mk ((by rw [hg]; exact (below_size (by repeat (first | (with_reducible first | exact HB.out | apply below_alloc | apply pw_below_drewN | apply below_drew1) | exact HB.out))) : w.heap.size ≤ gb187)); have n3_ := Aside0.mk ((by rw [hg]; exact (below_size (by repeat (first | (with_reducible first | exact HB.out | apply below_alloc | apply pw_below_drewN | apply below_drew1) | exact HB.out))) : w.heap.size ≤ gb187)); clear HB; have HB := n0_; have BK187 := n1_; have GW187 := n2_; have GE187 := n3_; clear n0_ n1_ n2_ n3_; clear hb hbox hg))
            have n0_ := Aside0.mk (blk_drew BK187.out)
            have n1_ := Aside0.mk (below_drew1 HB.out)
            clear BK187
            clear HB
            have BK187 := n0_
            have HB := n1_
            clear n0_ n1_
            refine start_ (n := 18) (S := fun w' => True) (ds := []) #[false, false, false, false, false, false, false, false, false, false, false, false, false, false, false, false, false, false] (by kernel_rfl) rfl rfl trivial (fun hHeld => ?_); refine with_tabW impl_datagramBytes.tab1 impl_datagramBytes.bits1 (fun HT_ HW_ => ?_)
            generalize w46.drew = w47 at BK187 HB hHeld ⊢
            refine pure_ (i := 0) (N := some 9) (v := ?_) (a' := ?_) #[true, false, false, false, false, false, false, false, false, false, false, false, false, false, false, false, false, false] rfl rfl (any_of HT_.out (by kernel_rfl)) (fun _ _ _ h => h) (Or.inl ⟨by rfl, ?_⟩) ?_ ?_
            rotate_left
            · intro w'
              go_simp
              with_reducible rfl
            rotate_left
            · simp only [Act.put, List.setIfInBounds_toArray, List.set_cons_zero, List.set_cons_succ, i64_w, i32_w]
              rfl
            refine pure_ (i := 3) (N := some 12) (v := ?_) (a' := ?_) #[true, false, false, true, false, false, false, false, false, false, false, false, false, false, false, false, false, false] rfl rfl (any_of HT_.out (by kernel_rfl)) (fun _ _ _ h => h) (Or.inl ⟨by rfl, ?_⟩) ?_ ?_
            rotate_left
            · intro w'
              go_simp
              with_reducible rfl
            rotate_left
            · simp only [Act.put, List.setIfInBounds_toArray, List.set_cons_zero, List.set_cons_succ, i64_w, i32_w]
              rfl
            refine pure_ (i := 6) (N := some 15) (v := ?_) (a' := ?_) #[true, false, false, true, false, false, true, false, false, false, false, false, false, false, false, false, false, false] rfl rfl (any_of HT_.out (by kernel_rfl)) (fun _ _ _ h => h) (Or.inl ⟨by rfl, ?_⟩) ?_ ?_
            rotate_left
            · intro w'
              go_simp
              with_reducible rfl
            rotate_left
            · simp only [Act.put, List.setIfInBounds_toArray, List.set_cons_zero, List.set_cons_succ, i64_w, i32_w]
              rfl
            refine pure_ (i := 12) (N := some 21) (v := ?_) (a' := ?_) #[true, false, false, true, false, false, true, false, false, false, false, false, true, false, false, false, false, false] rfl rfl (any_of HT_.out (by kernel_rfl)) (fun _ _ _ h => h) (Or.inl ⟨by rfl, ?_⟩) ?_ ?_
            rotate_left
            · intro w'
              go_simp
              with_reducible rfl
            rotate_left
            · simp only [Act.put, List.setIfInBounds_toArray, List.set_cons_zero, List.set_cons_succ, i64_w, i32_w]
              rfl
            refine inv_at [1, 2, 4, 5, 7, 8, 9, 10, 11, 13, 14, 15, 16, 17] (fun a0_ b a w' => ∃ (v189 : Value) (v192 : Value) (v195 : Value) (v198 : Value) (v201 : Value) (v204 : Value) (v207 : Value) (m17_ : Value), a = putSel a0_ b [(1, 10, .int .i64 a2_0), (2, 11, v189), (4, 13, .int .i64 a2_1), (5, 14, v192), (7, 16, .string a2_2), (8, 17, .int .i64 (a2_2.size : Int)), (9, 18, .int .i64 (wrap64 (8 + (a2_2.size : Int)))), (10, 19, v195), (11, 20, v198), (13, 22, .string a2_2), (14, 23, v201), (15, 24, v204), (16, 25, v207), (17, 7, m17_)] ∧ (w'.heap[gb187]? = some (.cells #[.int .i64 a2_0, .int .i64 a2_1, .string a2_2] 60 (0, 0))) ∧ (Below w.heap.size w w') ∧ (b 2 = true → b 15 = false → Kd.R (Kd.int .u8) 5 w' w.heap.size (fun _ => True) v189 t188) ∧ (b 5 = true → b 15 = false → Kd.R (Kd.int .u8) 5 w' w.heap.size (fun _ => True) v192 t191) ∧ (b 10 = true → b 15 = false → Kd.R (Kd.int .u8) 5 w' w.heap.size (fun _ => True) v195 t194) ∧ (b 11 = true → b 15 = false → Kd.R (Kd.int .u8) 5 w' w.heap.size (fun _ => True) v198 y197) ∧ (b 14 = true → Kd.V (Kd.int .u8) 5 w' w.heap.size (fun k_ => k_ ≠ gb187) v201 y200) ∧ (b 15 = true → Kd.N (Kd.slice 5 (Kd.int .u8)) 22 w' w.heap.size (fun k_ => k_ ≠ gb187) v204 y203) ∧ (b 16 = true → Kd.R (Kd.int .u8) 5 w' w.heap.size (fun _ => True) v207 t206) ∧ (b 17 = true → (m17_ : Value) = v207)) HT_.out HW_.out (by kernel_rfl) (by kernel_rfl) ?_ ?_ ?_
            · exact ⟨.bool false, .bool false, .bool false, .bool false, .bool false, .bool false, .bool false, .bool false, by simp only [putSel, Bool.false_eq_true, if_false], BK187.out, HB.out, fun h_ => absurd h_ (by decide), fun h_ => absurd h_ (by decide), fun h_ => absurd h_ (by decide), fun h_ => absurd h_ (by decide), fun h_ => absurd h_ (by decide), fun h_ => absurd h_ (by decide), fun h_ => absurd h_ (by decide), fun h_ => absurd h_ (by decide)⟩
            · skip
              clear BK187 HB
              refine steps_cons ?_ ?_
              · rintro b a w' ⟨v189, v192, v195, v198, v201, v204, v207, m17_, ha, Q_BK187, Q_HB, Q_HO190, Q_HO193, Q_HO196, Q_HO199, Q_HO202, Q_HO205, Q_HO208, Q_X17_⟩ hb_ hon hoff
                refine ⟨_, rfl, fun K hK => ?_⟩
                have e9 : a.tmps[9]? = some (.pointer (some ⟨gb187, 0, none⟩)) := by rw [ha]; exact (putSel_off rfl).trans rfl
                replace ha := Aside0.mk ha
                have BK187 := Aside0.mk Q_BK187
                have HB := Aside0.mk Q_HB
                have hc0_ : w'.cell? ⟨gb187, 0, none⟩ = some (.int .i64 a2_0) := (blk_cell BK187.out 0).trans rfl
                have hc1_ : w'.cell? ⟨gb187, 1, none⟩ = some (.int .i64 a2_1) := (blk_cell BK187.out 1).trans rfl
                have hc2_ : w'.cell? ⟨gb187, 2, none⟩ = some (.string a2_2) := (blk_cell BK187.out 2).trans rfl
                refine value_ (w1 := w') (v := .int .i64 a2_0) (by rfl) rfl ?_ ?_
                · go_simp
                  (try simp only [i64_w])
                  try rfl
                refine hK.out _ _ ⟨v189, v192, v195, v198, v201, v204, v207, m17_, (by rw [ha.out]; exact putSel_upk 0 hb_ rfl rfl rfl), Q_BK187, Q_HB, fun h0_ _ => absurd ((hoff 2 (by kernel_rfl)).symm.trans h0_) (by decide), fun h0_ _ => absurd ((hoff 5 (by kernel_rfl)).symm.trans h0_) (by decide), fun h0_ _ => absurd ((hoff 10 (by kernel_rfl)).symm.trans h0_) (by decide), Q_HO199, Q_HO202, fun h0_ => absurd ((hoff 15 (by kernel_rfl)).symm.trans h0_) (by decide), fun h0_ => absurd ((hoff 16 (by kernel_rfl)).symm.trans h0_) (by decide), fun h0_ => absurd ((hoff 17 (by kernel_rfl)).symm.trans h0_) (by decide)⟩
              refine steps_cons ?_ ?_
              · rintro b a w' ⟨v189, v192, v195, v198, v201, v204, v207, m17_, ha, Q_BK187, Q_HB, Q_HO190, Q_HO193, Q_HO196, Q_HO199, Q_HO202, Q_HO205, Q_HO208, Q_X17_⟩ hb_ hon hoff
                refine ⟨_, rfl, fun K hK => ?_⟩
                have e10 : a.tmps[10]? = some (.int .i64 a2_0) := by rw [ha]; exact putSel_on (e := (1, 10, .int .i64 a2_0)) 0 rfl rfl (hon 1 (by kernel_rfl)) rfl
                replace ha := Aside0.mk ha
                have BK187 := Aside0.mk Q_BK187
                have HB := Aside0.mk Q_HB
                refine goes_ Try.func62 (by kernel_rfl) rfl #[.int .i64 a2_0, .int .i64 2] (by rfl) rfl rfl (by first | (simp only [List.map_toArray, List.map_cons, List.map_nil, Act.eval, Array.getD_eq_getD_getElem?, Option.getD_some, e10]; done) | (simp only [List.map_toArray, List.map_cons, List.map_nil, Act.eval, Array.getD_eq_getD_getElem?, Option.getD_some, e10]; rfl)) ?_
                with_reducible refine (impl_be.calls k a2_0 2 t188 _ A4.out).mono ?_
                rintro e w48 ⟨v189, rfl, ho0, hb⟩
                refine ⟨_, rfl, ?_⟩
                have n0_ := Aside0.mk (Kd.R_lower ho0 (below_size (by repeat (first | (with_reducible first | exact HB.out | apply below_alloc | apply pw_below_drewN | apply below_drew1 | refine below_set ?_ GE187.out) | exact HB.out))))
                have n1_ := Aside0.mk (blk_below (g := gb187) (o := .cells #[.int .i64 a2_0, .int .i64 a2_1, .string a2_2] 60 (0, 0)) (by (with_reducible repeat (first | refine blk_drewN ?_ _ | refine blk_drew ?_ | refine blk_alloc ?_ _)); exact BK187.out) hb)
                have n2_ := Aside0.mk (below_step (by repeat (first | (with_reducible first | exact HB.out | apply below_alloc | apply pw_below_drewN | apply below_drew1 | refine below_set ?_ GE187.out) | exact HB.out)) hb)
                have z_HO199 := fun (h0_ : b 11 = true) (h1_ : b 15 = false) => (show Kd.R (Kd.int .u8) 5 w48 w.heap.size (fun _ => True) v198 y197 from by first | exact (Kd.R_elder' (by (with_reducible repeat (first | apply Kd.R_alloc | apply Kd.R_drewN | apply Kd.R_drew)); exact (Q_HO199 h0_ h1_)) (Kd.R_base ho0) hb) | exact Kd.R_mono (Kd.R_elder' (by (with_reducible repeat (first | apply Kd.R_alloc | apply Kd.R_drewN | apply Kd.R_drew)); exact (Q_HO199 h0_ h1_)) (Kd.R_base ho0) hb) (fun _ h_ => by first | trivial | exact h_ | exact h_.1))
                have z_HO202 := fun (h0_ : b 14 = true) => (show Kd.V (Kd.int .u8) 5 w48 w.heap.size (fun k_ => k_ ≠ gb187) v201 y200 from by first | exact (Kd.V_elder' (by (with_reducible repeat (first | apply Kd.V_alloc | apply Kd.V_drewN | apply Kd.V_drew)); exact (Q_HO202 h0_)) (Kd.R_base ho0) hb) | exact Kd.V_mono (Kd.V_elder' (by (with_reducible repeat (first | apply Kd.V_alloc | apply Kd.V_drewN | apply Kd.V_drew)); exact (Q_HO202 h0_)) (Kd.R_base ho0) hb) (fun _ h_ => by first | trivial | exact h_ | exact h_.1))
                clear BK187
                clear HB
                have HO190 := n0_
                have BK187 := n1_
                have HB := n2_
                clear n0_ n1_ n2_
                (try clear hb)
                (try clear hb2)
                (try clear hk)
                (try clear hi)
                (try clear ho0)
                refine hK.out _ _ ⟨v189, v192, v195, v198, v201, v204, v207, m17_, (by rw [ha.out]; exact putSel_upk 1 hb_ rfl rfl rfl), (by (with_reducible repeat (first | refine blk_drewN ?_ _ | refine blk_drew ?_ | refine blk_alloc ?_ _)); exact BK187.out), (by repeat (first | (with_reducible first | exact HB.out | apply below_alloc | apply pw_below_drewN | apply below_drew1 | refine below_set ?_ GE187.out) | exact HB.out)), fun _ _ => (by (with_reducible repeat (first | apply Kd.R_alloc | apply Kd.R_drewN | apply Kd.R_drew)); first | exact HO190.out | exact Kd.R_mono HO190.out (fun _ h_ => by first | trivial | exact h_ | exact h_.1)), fun h0_ _ => absurd ((hoff 5 (by kernel_rfl)).symm.trans h0_) (by decide), fun h0_ _ => absurd ((hoff 10 (by kernel_rfl)).symm.trans h0_) (by decide), z_HO199, z_HO202, fun h0_ => absurd ((hoff 15 (by kernel_rfl)).symm.trans h0_) (by decide), fun h0_ => absurd ((hoff 16 (by kernel_rfl)).symm.trans h0_) (by decide), fun h0_ => absurd ((hoff 17 (by kernel_rfl)).symm.trans h0_) (by decide)⟩
              refine steps_cons ?_ ?_
              · rintro b a w' ⟨v189, v192, v195, v198, v201, v204, v207, m17_, ha, Q_BK187, Q_HB, Q_HO190, Q_HO193, Q_HO196, Q_HO199, Q_HO202, Q_HO205, Q_HO208, Q_X17_⟩ hb_ hon hoff
                refine ⟨_, rfl, fun K hK => ?_⟩
                have e12 : a.tmps[12]? = some (.pointer (some ⟨gb187, 1, none⟩)) := by rw [ha]; exact (putSel_off rfl).trans rfl
                replace ha := Aside0.mk ha
                have BK187 := Aside0.mk Q_BK187
                have HB := Aside0.mk Q_HB
                have hc0_ : w'.cell? ⟨gb187, 0, none⟩ = some (.int .i64 a2_0) := (blk_cell BK187.out 0).trans rfl
                have hc1_ : w'.cell? ⟨gb187, 1, none⟩ = some (.int .i64 a2_1) := (blk_cell BK187.out 1).trans rfl
                have hc2_ : w'.cell? ⟨gb187, 2, none⟩ = some (.string a2_2) := (blk_cell BK187.out 2).trans rfl
                refine value_ (w1 := w') (v := .int .i64 a2_1) (by rfl) rfl ?_ ?_
                · go_simp
                  (try simp only [i64_w])
                  try rfl
                refine hK.out _ _ ⟨v189, v192, v195, v198, v201, v204, v207, m17_, (by rw [ha.out]; exact putSel_upk 2 hb_ rfl rfl rfl), Q_BK187, Q_HB, Q_HO190, fun h0_ _ => absurd ((hoff 5 (by kernel_rfl)).symm.trans h0_) (by decide), fun h0_ _ => absurd ((hoff 10 (by kernel_rfl)).symm.trans h0_) (by decide), Q_HO199, Q_HO202, fun h0_ => absurd ((hoff 15 (by kernel_rfl)).symm.trans h0_) (by decide), fun h0_ => absurd ((hoff 16 (by kernel_rfl)).symm.trans h0_) (by decide), fun h0_ => absurd ((hoff 17 (by kernel_rfl)).symm.trans h0_) (by decide)⟩
              refine steps_cons ?_ ?_
              · rintro b a w' ⟨v189, v192, v195, v198, v201, v204, v207, m17_, ha, Q_BK187, Q_HB, Q_HO190, Q_HO193, Q_HO196, Q_HO199, Q_HO202, Q_HO205, Q_HO208, Q_X17_⟩ hb_ hon hoff
                refine ⟨_, rfl, fun K hK => ?_⟩
                have e13 : a.tmps[13]? = some (.int .i64 a2_1) := by rw [ha]; exact putSel_on (e := (4, 13, .int .i64 a2_1)) 2 rfl rfl (hon 4 (by kernel_rfl)) rfl
                replace ha := Aside0.mk ha
                have BK187 := Aside0.mk Q_BK187
                have HB := Aside0.mk Q_HB
                have HO190 := Aside0.mk (Q_HO190 (hon 2 (by kernel_rfl)) (hoff 15 (by kernel_rfl)))
                refine goes_ Try.func62 (by kernel_rfl) rfl #[.int .i64 a2_1, .int .i64 2] (by rfl) rfl rfl (by first | (simp only [List.map_toArray, List.map_cons, List.map_nil, Act.eval, Array.getD_eq_getD_getElem?, Option.getD_some, e13]; done) | (simp only [List.map_toArray, List.map_cons, List.map_nil, Act.eval, Array.getD_eq_getD_getElem?, Option.getD_some, e13]; rfl)) ?_
                with_reducible refine (impl_be.calls k a2_1 2 t191 _ A5.out).mono ?_
                rintro e w50 ⟨v192, rfl, ho0, hb⟩
                refine ⟨_, rfl, ?_⟩
                have n0_ := Aside0.mk (Kd.R_elder' (by (with_reducible repeat (first | apply Kd.R_alloc | apply Kd.R_drewN | apply Kd.R_drew)); exact HO190.out) (Kd.R_base ho0) hb)
                have n1_ := Aside0.mk (Kd.R_lower (Kd.R_new' ho0 (Kd.R_lt (by (with_reducible repeat (first | apply Kd.R_alloc | apply Kd.R_drewN | apply Kd.R_drew)); exact HO190.out))) (below_size (by repeat (first | (with_reducible first | exact HB.out | apply below_alloc | apply pw_below_drewN | apply below_drew1 | refine below_set ?_ GE187.out) | exact HB.out))))
                have n2_ := Aside0.mk (blk_below (g := gb187) (o := .cells #[.int .i64 a2_0, .int .i64 a2_1, .string a2_2] 60 (0, 0)) (by (with_reducible repeat (first | refine blk_drewN ?_ _ | refine blk_drew ?_ | refine blk_alloc ?_ _)); exact BK187.out) hb)
                have n3_ := Aside0.mk (below_step (by repeat (first | (with_reducible first | exact HB.out | apply below_alloc | apply pw_below_drewN | apply below_drew1 | refine below_set ?_ GE187.out) | exact HB.out)) hb)
                have z_HO199 := fun (h0_ : b 11 = true) (h1_ : b 15 = false) => (show Kd.R (Kd.int .u8) 5 w50 w.heap.size (fun _ => True) v198 y197 from by first | exact (Kd.R_elder' (by (with_reducible repeat (first | apply Kd.R_alloc | apply Kd.R_drewN | apply Kd.R_drew)); exact (Q_HO199 h0_ h1_)) (Kd.R_base ho0) hb) | exact Kd.R_mono (Kd.R_elder' (by (with_reducible repeat (first | apply Kd.R_alloc | apply Kd.R_drewN | apply Kd.R_drew)); exact (Q_HO199 h0_ h1_)) (Kd.R_base ho0) hb) (fun _ h_ => by first | trivial | exact h_ | exact h_.1))
                have z_HO202 := fun (h0_ : b 14 = true) => (show Kd.V (Kd.int .u8) 5 w50 w.heap.size (fun k_ => k_ ≠ gb187) v201 y200 from by first | exact (Kd.V_elder' (by (with_reducible repeat (first | apply Kd.V_alloc | apply Kd.V_drewN | apply Kd.V_drew)); exact (Q_HO202 h0_)) (Kd.R_base ho0) hb) | exact Kd.V_mono (Kd.V_elder' (by (with_reducible repeat (first | apply Kd.V_alloc | apply Kd.V_drewN | apply Kd.V_drew)); exact (Q_HO202 h0_)) (Kd.R_base ho0) hb) (fun _ h_ => by first | trivial | exact h_ | exact h_.1))
                clear HO190
                clear BK187
                clear HB
                have HO190 := n0_
                have HO193 := n1_
                have BK187 := n2_
                have HB := n3_
                clear n0_ n1_ n2_ n3_
                (try clear hb)
                (try clear hb2)
                (try clear hk)
                (try clear hi)
                (try clear ho0)
                refine hK.out _ _ ⟨v189, v192, v195, v198, v201, v204, v207, m17_, (by rw [ha.out]; exact putSel_upk 3 hb_ rfl rfl rfl), (by (with_reducible repeat (first | refine blk_drewN ?_ _ | refine blk_drew ?_ | refine blk_alloc ?_ _)); exact BK187.out), (by repeat (first | (with_reducible first | exact HB.out | apply below_alloc | apply pw_below_drewN | apply below_drew1 | refine below_set ?_ GE187.out) | exact HB.out)), fun _ _ => (by (with_reducible repeat (first | apply Kd.R_alloc | apply Kd.R_drewN | apply Kd.R_drew)); exact Kd.R_mono HO190.out (fun _ hk => by first | exact hk.2 | exact hk.2 | exact hk.1 | exact hk | exact hk.1.2 | exact hk.1.1 | exact hk.2.1 | exact hk.2.2)), fun _ _ => (by (with_reducible repeat (first | apply Kd.R_alloc | apply Kd.R_drewN | apply Kd.R_drew)); exact Kd.R_mono HO193.out (fun _ hk => by first | exact hk.2 | exact hk.2 | exact hk.1 | exact hk | exact hk.1.2 | exact hk.1.1 | exact hk.2.1 | exact hk.2.2)), fun h0_ _ => absurd ((hoff 10 (by kernel_rfl)).symm.trans h0_) (by decide), z_HO199, z_HO202, fun h0_ => absurd ((hoff 15 (by kernel_rfl)).symm.trans h0_) (by decide), fun h0_ => absurd ((hoff 16 (by kernel_rfl)).symm.trans h0_) (by decide), fun h0_ => absurd ((hoff 17 (by kernel_rfl)).symm.trans h0_) (by decide)⟩
              refine steps_cons ?_ ?_
              · rintro b a w' ⟨v189, v192, v195, v198, v201, v204, v207, m17_, ha, Q_BK187, Q_HB, Q_HO190, Q_HO193, Q_HO196, Q_HO199, Q_HO202, Q_HO205, Q_HO208, Q_X17_⟩ hb_ hon hoff
                refine ⟨_, rfl, fun K hK => ?_⟩
                have e15 : a.tmps[15]? = some (.pointer (some ⟨gb187, 2, none⟩)) := by rw [ha]; exact (putSel_off rfl).trans rfl
                replace ha := Aside0.mk ha
                have BK187 := Aside0.mk Q_BK187
                have HB := Aside0.mk Q_HB
                have hc0_ : w'.cell? ⟨gb187, 0, none⟩ = some (.int .i64 a2_0) := (blk_cell BK187.out 0).trans rfl
                have hc1_ : w'.cell? ⟨gb187, 1, none⟩ = some (.int .i64 a2_1) := (blk_cell BK187.out 1).trans rfl
                have hc2_ : w'.cell? ⟨gb187, 2, none⟩ = some (.string a2_2) := (blk_cell BK187.out 2).trans rfl
                refine value_ (w1 := w') (v := .string a2_2) (by rfl) rfl ?_ ?_
                · go_simp
                  (try simp only [i64_w])
                  try rfl
                refine hK.out _ _ ⟨v189, v192, v195, v198, v201, v204, v207, m17_, (by rw [ha.out]; exact putSel_upk 4 hb_ rfl rfl rfl), Q_BK187, Q_HB, Q_HO190, Q_HO193, fun h0_ _ => absurd ((hoff 10 (by kernel_rfl)).symm.trans h0_) (by decide), Q_HO199, Q_HO202, fun h0_ => absurd ((hoff 15 (by kernel_rfl)).symm.trans h0_) (by decide), fun h0_ => absurd ((hoff 16 (by kernel_rfl)).symm.trans h0_) (by decide), fun h0_ => absurd ((hoff 17 (by kernel_rfl)).symm.trans h0_) (by decide)⟩
              refine steps_cons ?_ ?_
              · rintro b a w' ⟨v189, v192, v195, v198, v201, v204, v207, m17_, ha, Q_BK187, Q_HB, Q_HO190, Q_HO193, Q_HO196, Q_HO199, Q_HO202, Q_HO205, Q_HO208, Q_X17_⟩ hb_ hon hoff
                refine ⟨_, rfl, fun K hK => ?_⟩
                have e16 : a.tmps[16]? = some (.string a2_2) := by rw [ha]; exact putSel_on (e := (7, 16, .string a2_2)) 4 rfl rfl (hon 7 (by kernel_rfl)) rfl
                replace ha := Aside0.mk ha
                have BK187 := Aside0.mk Q_BK187
                have HB := Aside0.mk Q_HB
                refine value_ (w1 := w') (v := .int .i64 (a2_2.size : Int)) (by rfl) rfl ?_ ?_
                · go_simp
                  (try simp only [i64_w])
                  try rfl
                refine hK.out _ _ ⟨v189, v192, v195, v198, v201, v204, v207, m17_, (by rw [ha.out]; exact putSel_upk 5 hb_ rfl rfl rfl), Q_BK187, Q_HB, Q_HO190, Q_HO193, fun h0_ _ => absurd ((hoff 10 (by kernel_rfl)).symm.trans h0_) (by decide), Q_HO199, Q_HO202, fun h0_ => absurd ((hoff 15 (by kernel_rfl)).symm.trans h0_) (by decide), fun h0_ => absurd ((hoff 16 (by kernel_rfl)).symm.trans h0_) (by decide), fun h0_ => absurd ((hoff 17 (by kernel_rfl)).symm.trans h0_) (by decide)⟩
              refine steps_cons ?_ ?_
              · rintro b a w' ⟨v189, v192, v195, v198, v201, v204, v207, m17_, ha, Q_BK187, Q_HB, Q_HO190, Q_HO193, Q_HO196, Q_HO199, Q_HO202, Q_HO205, Q_HO208, Q_X17_⟩ hb_ hon hoff
                refine ⟨_, rfl, fun K hK => ?_⟩
                have e17 : a.tmps[17]? = some (.int .i64 (a2_2.size : Int)) := by rw [ha]; exact putSel_on (e := (8, 17, .int .i64 (a2_2.size : Int))) 5 rfl rfl (hon 8 (by kernel_rfl)) rfl
                replace ha := Aside0.mk ha
                have BK187 := Aside0.mk Q_BK187
                have HB := Aside0.mk Q_HB
                refine value_ (w1 := w') (v := .int .i64 (wrap64 (8 + (a2_2.size : Int)))) (by rfl) rfl ?_ ?_
                · go_simp
                  (try simp only [i64_w])
                  try rfl
                refine hK.out _ _ ⟨v189, v192, v195, v198, v201, v204, v207, m17_, (by rw [ha.out]; exact putSel_upk 6 hb_ rfl rfl rfl), Q_BK187, Q_HB, Q_HO190, Q_HO193, fun h0_ _ => absurd ((hoff 10 (by kernel_rfl)).symm.trans h0_) (by decide), Q_HO199, Q_HO202, fun h0_ => absurd ((hoff 15 (by kernel_rfl)).symm.trans h0_) (by decide), fun h0_ => absurd ((hoff 16 (by kernel_rfl)).symm.trans h0_) (by decide), fun h0_ => absurd ((hoff 17 (by kernel_rfl)).symm.trans h0_) (by decide)⟩
              refine steps_cons ?_ ?_
              · rintro b a w' ⟨v189, v192, v195, v198, v201, v204, v207, m17_, ha, Q_BK187, Q_HB, Q_HO190, Q_HO193, Q_HO196, Q_HO199, Q_HO202, Q_HO205, Q_HO208, Q_X17_⟩ hb_ hon hoff
                refine ⟨_, rfl, fun K hK => ?_⟩
                have e18 : a.tmps[18]? = some (.int .i64 (wrap64 (8 + (a2_2.size : Int)))) := by rw [ha]; exact putSel_on (e := (9, 18, .int .i64 (wrap64 (8 + (a2_2.size : Int))))) 6 rfl rfl (hon 9 (by kernel_rfl)) rfl
                replace ha := Aside0.mk ha
                have BK187 := Aside0.mk Q_BK187
                have HB := Aside0.mk Q_HB
                have HO190 := Aside0.mk (Q_HO190 (hon 2 (by kernel_rfl)) (hoff 15 (by kernel_rfl)))
                have HO193 := Aside0.mk (Q_HO193 (hon 5 (by kernel_rfl)) (hoff 15 (by kernel_rfl)))
                refine goes_ Try.func62 (by kernel_rfl) rfl #[.int .i64 (wrap64 (8 + (a2_2.size : Int))), .int .i64 2] (by rfl) rfl rfl (by first | (simp only [List.map_toArray, List.map_cons, List.map_nil, Act.eval, Array.getD_eq_getD_getElem?, Option.getD_some, e18]; done) | (simp only [List.map_toArray, List.map_cons, List.map_nil, Act.eval, Array.getD_eq_getD_getElem?, Option.getD_some, e18]; rfl)) ?_
                with_reducible refine (impl_be.calls k (wrap64 (8 + (a2_2.size : Int))) 2 t194 _ A6.out).mono ?_
                rintro e w51 ⟨v195, rfl, ho0, hb⟩
                refine ⟨_, rfl, ?_⟩
                have n0_ := Aside0.mk (Kd.R_elder' (by (with_reducible repeat (first | apply Kd.R_alloc | apply Kd.R_drewN | apply Kd.R_drew)); exact HO190.out) (Kd.R_base ho0) hb)
                have n1_ := Aside0.mk (Kd.R_elder' (by (with_reducible repeat (first | apply Kd.R_alloc | apply Kd.R_drewN | apply Kd.R_drew)); exact HO193.out) (Kd.R_base ho0) hb)
                have n2_ := Aside0.mk (Kd.R_lower (Kd.R_new' (Kd.R_new' ho0 (Kd.R_lt (by (with_reducible repeat (first | apply Kd.R_alloc | apply Kd.R_drewN | apply Kd.R_drew)); exact HO190.out))) (Kd.R_lt (by (with_reducible repeat (first | apply Kd.R_alloc | apply Kd.R_drewN | apply Kd.R_drew)); exact HO193.out))) (below_size (by repeat (first | (with_reducible first | exact HB.out | apply below_alloc | apply pw_below_drewN | apply below_drew1 | refine below_set ?_ GE187.out) | exact HB.out))))
                have n3_ := Aside0.mk (blk_below (g := gb187) (o := .cells #[.int .i64 a2_0, .int .i64 a2_1, .string a2_2] 60 (0, 0)) (by (with_reducible repeat (first | refine blk_drewN ?_ _ | refine blk_drew ?_ | refine blk_alloc ?_ _)); exact BK187.out) hb)
                have n4_ := Aside0.mk (below_step (by repeat (first | (with_reducible first | exact HB.out | apply below_alloc | apply pw_below_drewN | apply below_drew1 | refine below_set ?_ GE187.out) | exact HB.out)) hb)
                have z_HO199 := fun (h0_ : b 11 = true) (h1_ : b 15 = false) => (show Kd.R (Kd.int .u8) 5 w51 w.heap.size (fun _ => True) v198 y197 from by first | exact (Kd.R_elder' (by (with_reducible repeat (first | apply Kd.R_alloc | apply Kd.R_drewN | apply Kd.R_drew)); exact (Q_HO199 h0_ h1_)) (Kd.R_base ho0) hb) | exact Kd.R_mono (Kd.R_elder' (by (with_reducible repeat (first | apply Kd.R_alloc | apply Kd.R_drewN | apply Kd.R_drew)); exact (Q_HO199 h0_ h1_)) (Kd.R_base ho0) hb) (fun _ h_ => by first | trivial | exact h_ | exact h_.1))
                have z_HO202 := fun (h0_ : b 14 = true) => (show Kd.V (Kd.int .u8) 5 w51 w.heap.size (fun k_ => k_ ≠ gb187) v201 y200 from by first | exact (Kd.V_elder' (by (with_reducible repeat (first | apply Kd.V_alloc | apply Kd.V_drewN | apply Kd.V_drew)); exact (Q_HO202 h0_)) (Kd.R_base ho0) hb) | exact Kd.V_mono (Kd.V_elder' (by (with_reducible repeat (first | apply Kd.V_alloc | apply Kd.V_drewN | apply Kd.V_drew)); exact (Q_HO202 h0_)) (Kd.R_base ho0) hb) (fun _ h_ => by first | trivial | exact h_ | exact h_.1))
                clear HO190
                clear HO193
                clear BK187
                clear HB
                have HO190 := n0_
                have HO193 := n1_
                have HO196 := n2_
                have BK187 := n3_
                have HB := n4_
                clear n0_ n1_ n2_ n3_ n4_
                (try clear hb)
                (try clear hb2)
                (try clear hk)
                (try clear hi)
                (try clear ho0)
                refine hK.out _ _ ⟨v189, v192, v195, v198, v201, v204, v207, m17_, (by rw [ha.out]; exact putSel_upk 7 hb_ rfl rfl rfl), (by (with_reducible repeat (first | refine blk_drewN ?_ _ | refine blk_drew ?_ | refine blk_alloc ?_ _)); exact BK187.out), (by repeat (first | (with_reducible first | exact HB.out | apply below_alloc | apply pw_below_drewN | apply below_drew1 | refine below_set ?_ GE187.out) | exact HB.out)), fun _ _ => (by (with_reducible repeat (first | apply Kd.R_alloc | apply Kd.R_drewN | apply Kd.R_drew)); first | exact HO190.out | exact Kd.R_mono HO190.out (fun _ h_ => by first | trivial | exact h_ | exact h_.1)), fun _ _ => (by (with_reducible repeat (first | apply Kd.R_alloc | apply Kd.R_drewN | apply Kd.R_drew)); first | exact HO193.out | exact Kd.R_mono HO193.out (fun _ h_ => by first | trivial | exact h_ | exact h_.1)), fun _ _ => (by (with_reducible repeat (first | apply Kd.R_alloc | apply Kd.R_drewN | apply Kd.R_drew)); exact Kd.R_mono HO196.out (fun _ hk => by first | exact ⟨hk.1.2, hk.2⟩ | exact hk.2 | exact hk.1 | exact hk | exact hk.1.2 | exact hk.1.1 | exact hk.2.1 | exact hk.2.2)), z_HO199, z_HO202, fun h0_ => absurd ((hoff 15 (by kernel_rfl)).symm.trans h0_) (by decide), fun h0_ => absurd ((hoff 16 (by kernel_rfl)).symm.trans h0_) (by decide), fun h0_ => absurd ((hoff 17 (by kernel_rfl)).symm.trans h0_) (by decide)⟩
              refine steps_cons ?_ ?_
              · rintro b a w' ⟨v189, v192, v195, v198, v201, v204, v207, m17_, ha, Q_BK187, Q_HB, Q_HO190, Q_HO193, Q_HO196, Q_HO199, Q_HO202, Q_HO205, Q_HO208, Q_X17_⟩ hb_ hon hoff
                refine ⟨_, rfl, fun K hK => ?_⟩
                replace ha := Aside0.mk ha
                have BK187 := Aside0.mk Q_BK187
                have HB := Aside0.mk Q_HB
                refine Kd.R_make_step (Kd.int .u8) _ 5 (by rfl) (N := 20) rfl 22 _ _ rfl 2 rfl rfl Try.underlying22 (.int .u8 0) 1 info5 rfl (by decide) (by omega) 0 (ok := fun _ => True) (okp := fun _ => True) rfl (fun _ hk => hk) trivial (by omega) (by omega) (Below.refl _ _) (Nat.le_refl _) ?_
                intro v198 w48 ho49 hb hg_ hnew_
                clear hg_ hnew_
                (first | rw [← Ny197.out] at ho49 | (simp only [Int.reduceToNat] at ho49; rw [← Ny197.out] at ho49))
                have n0_ := Aside0.mk (Kd.R_lower ho49 (below_size (by repeat (first | (with_reducible first | exact HB.out | apply below_alloc | apply pw_below_drewN | apply below_drew1 | refine below_set ?_ GE187.out) | exact HB.out))))
                have n1_ := Aside0.mk (blk_below (g := gb187) (o := .cells #[.int .i64 a2_0, .int .i64 a2_1, .string a2_2] 60 (0, 0)) (by (with_reducible repeat (first | refine blk_drewN ?_ _ | refine blk_drew ?_ | refine blk_alloc ?_ _)); exact BK187.out) hb)
                have n2_ := Aside0.mk (below_step (by repeat (first | (with_reducible first | exact HB.out | apply below_alloc | apply pw_below_drewN | apply below_drew1 | refine below_set ?_ GE187.out) | exact HB.out)) hb)
                have z_HO190 := fun (h0_ : b 2 = true) (h1_ : b 15 = false) => (show Kd.R (Kd.int .u8) 5 w48 w.heap.size (fun _ => True) v189 t188 from by first | exact (Kd.R_elder' (by (with_reducible repeat (first | apply Kd.R_alloc | apply Kd.R_drewN | apply Kd.R_drew)); exact (Q_HO190 h0_ h1_)) (Kd.R_base ho49) hb) | exact Kd.R_mono (Kd.R_elder' (by (with_reducible repeat (first | apply Kd.R_alloc | apply Kd.R_drewN | apply Kd.R_drew)); exact (Q_HO190 h0_ h1_)) (Kd.R_base ho49) hb) (fun _ h_ => by first | trivial | exact h_ | exact h_.1))
                have z_HO193 := fun (h0_ : b 5 = true) (h1_ : b 15 = false) => (show Kd.R (Kd.int .u8) 5 w48 w.heap.size (fun _ => True) v192 t191 from by first | exact (Kd.R_elder' (by (with_reducible repeat (first | apply Kd.R_alloc | apply Kd.R_drewN | apply Kd.R_drew)); exact (Q_HO193 h0_ h1_)) (Kd.R_base ho49) hb) | exact Kd.R_mono (Kd.R_elder' (by (with_reducible repeat (first | apply Kd.R_alloc | apply Kd.R_drewN | apply Kd.R_drew)); exact (Q_HO193 h0_ h1_)) (Kd.R_base ho49) hb) (fun _ h_ => by first | trivial | exact h_ | exact h_.1))
                have z_HO196 := fun (h0_ : b 10 = true) (h1_ : b 15 = false) => (show Kd.R (Kd.int .u8) 5 w48 w.heap.size (fun _ => True) v195 t194 from by first | exact (Kd.R_elder' (by (with_reducible repeat (first | apply Kd.R_alloc | apply Kd.R_drewN | apply Kd.R_drew)); exact (Q_HO196 h0_ h1_)) (Kd.R_base ho49) hb) | exact Kd.R_mono (Kd.R_elder' (by (with_reducible repeat (first | apply Kd.R_alloc | apply Kd.R_drewN | apply Kd.R_drew)); exact (Q_HO196 h0_ h1_)) (Kd.R_base ho49) hb) (fun _ h_ => by first | trivial | exact h_ | exact h_.1))
                have z_HO202 := fun (h0_ : b 14 = true) => (show Kd.V (Kd.int .u8) 5 w48 w.heap.size (fun k_ => k_ ≠ gb187) v201 y200 from by first | exact (Kd.V_elder' (by (with_reducible repeat (first | apply Kd.V_alloc | apply Kd.V_drewN | apply Kd.V_drew)); exact (Q_HO202 h0_)) (Kd.R_base ho49) hb) | exact Kd.V_mono (Kd.V_elder' (by (with_reducible repeat (first | apply Kd.V_alloc | apply Kd.V_drewN | apply Kd.V_drew)); exact (Q_HO202 h0_)) (Kd.R_base ho49) hb) (fun _ h_ => by first | trivial | exact h_ | exact h_.1))
                clear BK187
                clear HB
                have HO199 := n0_
                have BK187 := n1_
                have HB := n2_
                clear n0_ n1_ n2_
                clear hb ho49
                refine hK.out _ _ ⟨v189, v192, v195, v198, v201, v204, v207, m17_, (by rw [ha.out]; exact putSel_upk 8 hb_ rfl rfl rfl), (by (with_reducible repeat (first | refine blk_drewN ?_ _ | refine blk_drew ?_ | refine blk_alloc ?_ _)); exact BK187.out), (by repeat (first | (with_reducible first | exact HB.out | apply below_alloc | apply pw_below_drewN | apply below_drew1 | refine below_set ?_ GE187.out) | exact HB.out)), z_HO190, z_HO193, z_HO196, fun _ _ => (by (with_reducible repeat (first | apply Kd.R_alloc | apply Kd.R_drewN | apply Kd.R_drew)); first | exact HO199.out | exact Kd.R_mono HO199.out (fun _ h_ => by first | trivial | exact h_ | exact h_.1)), z_HO202, fun h0_ => absurd ((hoff 15 (by kernel_rfl)).symm.trans h0_) (by decide), fun h0_ => absurd ((hoff 16 (by kernel_rfl)).symm.trans h0_) (by decide), fun h0_ => absurd ((hoff 17 (by kernel_rfl)).symm.trans h0_) (by decide)⟩
              refine steps_cons ?_ ?_
              · rintro b a w' ⟨v189, v192, v195, v198, v201, v204, v207, m17_, ha, Q_BK187, Q_HB, Q_HO190, Q_HO193, Q_HO196, Q_HO199, Q_HO202, Q_HO205, Q_HO208, Q_X17_⟩ hb_ hon hoff
                refine ⟨_, rfl, fun K hK => ?_⟩
                have e21 : a.tmps[21]? = some (.pointer (some ⟨gb187, 2, none⟩)) := by rw [ha]; exact (putSel_off rfl).trans rfl
                replace ha := Aside0.mk ha
                have BK187 := Aside0.mk Q_BK187
                have HB := Aside0.mk Q_HB
                have hc0_ : w'.cell? ⟨gb187, 0, none⟩ = some (.int .i64 a2_0) := (blk_cell BK187.out 0).trans rfl
                have hc1_ : w'.cell? ⟨gb187, 1, none⟩ = some (.int .i64 a2_1) := (blk_cell BK187.out 1).trans rfl
                have hc2_ : w'.cell? ⟨gb187, 2, none⟩ = some (.string a2_2) := (blk_cell BK187.out 2).trans rfl
                refine value_ (w1 := w') (v := .string a2_2) (by rfl) rfl ?_ ?_
                · go_simp
                  (try simp only [i64_w])
                  try rfl
                refine hK.out _ _ ⟨v189, v192, v195, v198, v201, v204, v207, m17_, (by rw [ha.out]; exact putSel_upk 9 hb_ rfl rfl rfl), Q_BK187, Q_HB, Q_HO190, Q_HO193, Q_HO196, Q_HO199, fun h0_ => absurd ((hoff 14 (by kernel_rfl)).symm.trans h0_) (by decide), fun h0_ => absurd ((hoff 15 (by kernel_rfl)).symm.trans h0_) (by decide), fun h0_ => absurd ((hoff 16 (by kernel_rfl)).symm.trans h0_) (by decide), fun h0_ => absurd ((hoff 17 (by kernel_rfl)).symm.trans h0_) (by decide)⟩
              refine steps_cons ?_ ?_
              · rintro b a w' ⟨v189, v192, v195, v198, v201, v204, v207, m17_, ha, Q_BK187, Q_HB, Q_HO190, Q_HO193, Q_HO196, Q_HO199, Q_HO202, Q_HO205, Q_HO208, Q_X17_⟩ hb_ hon hoff
                refine ⟨_, rfl, fun K hK => ?_⟩
                have e22 : a.tmps[22]? = some (.string a2_2) := by rw [ha]; exact putSel_on (e := (13, 22, .string a2_2)) 9 rfl rfl (hon 13 (by kernel_rfl)) rfl
                replace ha := Aside0.mk ha
                have BK187 := Aside0.mk Q_BK187
                have HB := Aside0.mk Q_HB
                refine Kd.V_make_step _ 5 (by rfl) (N' := 23) rfl 9 22 _ rfl a2_2 (by first | rfl | exact eval_tmp (by assumption)) Try.underlying9 Try.underlying22 Try.underlying5 (ok := fun k_ => w'.heap.size ≤ k_) (Nat.le_refl _) (of_decide_eq_true (by first | (with_reducible assumption) | assumption) : a2_2.size ≤ 140737488355328) (Below.refl _ _) (Nat.le_refl _) ?_
                intro v201 w48 ho49 hb hg_ hnew_
                clear hg_ hnew_
                (first | rw [← Ny200.out] at ho49 | (simp only [Int.reduceToNat] at ho49; rw [← Ny200.out] at ho49))
                have n0_ := Aside0.mk (Kd.V_lower (Kd.V_mono (ok' := fun k_ => k_ ≠ gb187) ho49 (fun k_ hk_ => (Kd.freshB (g := gb187) (o := .cells #[.int .i64 a2_0, .int .i64 a2_1, .string a2_2] 60 (0, 0)) (by (with_reducible repeat (first | refine blk_drewN ?_ _ | refine blk_drew ?_ | refine blk_alloc ?_ _)); exact BK187.out) k_ hk_))) (below_size (by repeat (first | (with_reducible first | exact HB.out | apply below_alloc | apply pw_below_drewN | apply below_drew1 | refine below_set ?_ GE187.out) | exact HB.out))))
                have n1_ := Aside0.mk (blk_below (g := gb187) (o := .cells #[.int .i64 a2_0, .int .i64 a2_1, .string a2_2] 60 (0, 0)) (by (with_reducible repeat (first | refine blk_drewN ?_ _ | refine blk_drew ?_ | refine blk_alloc ?_ _)); exact BK187.out) hb)
                have n2_ := Aside0.mk (below_step (by repeat (first | (with_reducible first | exact HB.out | apply below_alloc | apply pw_below_drewN | apply below_drew1 | refine below_set ?_ GE187.out) | exact HB.out)) hb)
                have z_HO190 := fun (h0_ : b 2 = true) (h1_ : b 15 = false) => (show Kd.R (Kd.int .u8) 5 w48 w.heap.size (fun _ => True) v189 t188 from by first | exact (Kd.R_below (by (with_reducible repeat (first | apply Kd.R_alloc | apply Kd.R_drewN | apply Kd.R_drew)); exact (Q_HO190 h0_ h1_)) hb) | exact Kd.R_mono (Kd.R_below (by (with_reducible repeat (first | apply Kd.R_alloc | apply Kd.R_drewN | apply Kd.R_drew)); exact (Q_HO190 h0_ h1_)) hb) (fun _ h_ => by first | trivial | exact h_ | exact h_.1))
                have z_HO193 := fun (h0_ : b 5 = true) (h1_ : b 15 = false) => (show Kd.R (Kd.int .u8) 5 w48 w.heap.size (fun _ => True) v192 t191 from by first | exact (Kd.R_below (by (with_reducible repeat (first | apply Kd.R_alloc | apply Kd.R_drewN | apply Kd.R_drew)); exact (Q_HO193 h0_ h1_)) hb) | exact Kd.R_mono (Kd.R_below (by (with_reducible repeat (first | apply Kd.R_alloc | apply Kd.R_drewN | apply Kd.R_drew)); exact (Q_HO193 h0_ h1_)) hb) (fun _ h_ => by first | trivial | exact h_ | exact h_.1))
                have z_HO196 := fun (h0_ : b 10 = true) (h1_ : b 15 = false) => (show Kd.R (Kd.int .u8) 5 w48 w.heap.size (fun _ => True) v195 t194 from by first | exact (Kd.R_below (by (with_reducible repeat (first | apply Kd.R_alloc | apply Kd.R_drewN | apply Kd.R_drew)); exact (Q_HO196 h0_ h1_)) hb) | exact Kd.R_mono (Kd.R_below (by (with_reducible repeat (first | apply Kd.R_alloc | apply Kd.R_drewN | apply Kd.R_drew)); exact (Q_HO196 h0_ h1_)) hb) (fun _ h_ => by first | trivial | exact h_ | exact h_.1))
                have z_HO199 := fun (h0_ : b 11 = true) (h1_ : b 15 = false) => (show Kd.R (Kd.int .u8) 5 w48 w.heap.size (fun _ => True) v198 y197 from by first | exact (Kd.R_below (by (with_reducible repeat (first | apply Kd.R_alloc | apply Kd.R_drewN | apply Kd.R_drew)); exact (Q_HO199 h0_ h1_)) hb) | exact Kd.R_mono (Kd.R_below (by (with_reducible repeat (first | apply Kd.R_alloc | apply Kd.R_drewN | apply Kd.R_drew)); exact (Q_HO199 h0_ h1_)) hb) (fun _ h_ => by first | trivial | exact h_ | exact h_.1))
                clear BK187
                clear HB
                have HO202 := n0_
                have BK187 := n1_
                have HB := n2_
                clear n0_ n1_ n2_
                clear hb ho49
                refine hK.out _ _ ⟨v189, v192, v195, v198, v201, v204, v207, m17_, (by rw [ha.out]; exact putSel_upk 10 hb_ rfl rfl rfl), (by (with_reducible repeat (first | refine blk_drewN ?_ _ | refine blk_drew ?_ | refine blk_alloc ?_ _)); exact BK187.out), (by repeat (first | (with_reducible first | exact HB.out | apply below_alloc | apply pw_below_drewN | apply below_drew1 | refine below_set ?_ GE187.out) | exact HB.out)), z_HO190, z_HO193, z_HO196, z_HO199, fun _ => (by (with_reducible repeat (first | apply Kd.V_alloc | apply Kd.V_drewN | apply Kd.V_drew)); exact HO202.out), fun h0_ => absurd ((hoff 15 (by kernel_rfl)).symm.trans h0_) (by decide), fun h0_ => absurd ((hoff 16 (by kernel_rfl)).symm.trans h0_) (by decide), fun h0_ => absurd ((hoff 17 (by kernel_rfl)).symm.trans h0_) (by decide)⟩
              refine steps_cons ?_ ?_
              · rintro b a w' ⟨v189, v192, v195, v198, v201, v204, v207, m17_, ha, Q_BK187, Q_HB, Q_HO190, Q_HO193, Q_HO196, Q_HO199, Q_HO202, Q_HO205, Q_HO208, Q_X17_⟩ hb_ hon hoff
                refine ⟨_, rfl, fun K hK => ?_⟩
                have e11 : a.tmps[11]? = some (v189) := by rw [ha]; exact putSel_on (e := (2, 11, v189)) 1 rfl rfl (hon 2 (by kernel_rfl)) rfl
                have e14 : a.tmps[14]? = some (v192) := by rw [ha]; exact putSel_on (e := (5, 14, v192)) 3 rfl rfl (hon 5 (by kernel_rfl)) rfl
                have e19 : a.tmps[19]? = some (v195) := by rw [ha]; exact putSel_on (e := (10, 19, v195)) 7 rfl rfl (hon 10 (by kernel_rfl)) rfl
                have e20 : a.tmps[20]? = some (v198) := by rw [ha]; exact putSel_on (e := (11, 20, v198)) 8 rfl rfl (hon 11 (by kernel_rfl)) rfl
                have e23 : a.tmps[23]? = some (v201) := by rw [ha]; exact putSel_on (e := (14, 23, v201)) 10 rfl rfl (hon 14 (by kernel_rfl)) rfl
                replace ha := Aside0.mk ha
                have BK187 := Aside0.mk Q_BK187
                have HB := Aside0.mk Q_HB
                have HO190 := Aside0.mk (Q_HO190 (hon 2 (by kernel_rfl)) hb_)
                have HO193 := Aside0.mk (Q_HO193 (hon 5 (by kernel_rfl)) hb_)
                have HO196 := Aside0.mk (Q_HO196 (hon 10 (by kernel_rfl)) hb_)
                have HO199 := Aside0.mk (Q_HO199 (hon 11 (by kernel_rfl)) hb_)
                have HO202 := Aside0.mk (Q_HO202 (hon 14 (by kernel_rfl)))
                obtain ⟨Ao56, co56, eo56⟩ := Kd.R_slice HO190.out
                (first | subst eo56 | (injection eo56 with f1_ f2_ f3_; have f4_ := f1_.symm; have f5_ := f3_.symm; clear f1_ f2_ f3_; subst f4_; subst f5_))
                obtain ⟨Ao57, co57, eo57⟩ := Kd.R_slice HO193.out
                (first | subst eo57 | (injection eo57 with f1_ f2_ f3_; have f4_ := f1_.symm; have f5_ := f3_.symm; clear f1_ f2_ f3_; subst f4_; subst f5_))
                obtain ⟨Ao58, co58, eo58⟩ := Kd.R_slice HO196.out
                (first | subst eo58 | (injection eo58 with f1_ f2_ f3_; have f4_ := f1_.symm; have f5_ := f3_.symm; clear f1_ f2_ f3_; subst f4_; subst f5_))
                obtain ⟨Ao59, co59, eo59⟩ := Kd.R_slice HO199.out
                (first | subst eo59 | (injection eo59 with f1_ f2_ f3_; have f4_ := f1_.symm; have f5_ := f3_.symm; clear f1_ f2_ f3_; subst f4_; subst f5_))
                obtain ⟨Ao60, co60, eo60⟩ := Kd.V_slice HO202.out
                (first | subst eo60 | (injection eo60 with f1_ f2_ f3_; have f4_ := f1_.symm; have f5_ := f3_.symm; clear f1_ f2_ f3_; subst f4_; subst f5_))
                refine Kd.N_lit_step (Kd.slice 5 (Kd.int .u8)) _ 22 ?hg (N' := 24) ?hd (xs := ([t188, t191, t194, y197, y200] : List (List Int))) (inner := [.slice Ao56 t188.length co56, .slice Ao57 t191.length co57, .slice Ao58 t194.length co58, .slice Ao59 y197.length co59, .slice Ao60 y200.length co60]) (ok := (fun k_ => k_ ≠ gb187)) (okp := (fun k_ => k_ ≠ gb187)) ?hr ?hp (fun _ hk => hk) ((show ∀ k_, w'.heap.size ≤ k_ → (fun k_ => k_ ≠ gb187) k_ from fun k_ hk => Kd.freshB (g := gb187) (o := .cells #[.int .i64 a2_0, .int .i64 a2_1, .string a2_2] 60 (0, 0)) (by (with_reducible repeat (first | refine blk_drewN ?_ _ | refine blk_drew ?_ | refine blk_alloc ?_ _)); exact BK187.out) k_ hk) _ (Nat.le_refl _)) (Below.refl _ _) (Nat.le_refl _) (by simp) ?_; (case hd => rfl); (case hg => rfl); (case hr => first | (go_simp; done) | (go_simp; rfl)); (case hp => exact (Reps.one (show Kd.FK (Kd.slice 5 (Kd.int .u8)) _ _ t188 [.slice Ao56 t188.length co56] from (Kd.FK_slice_mk (Kd.R_reads' (Kd.R_mono (ok' := (fun k_ => k_ ≠ gb187)) (Kd.R_types (HO190.out) BK187.out (by decide)) (fun k_ hk => by first | exact hk.2 | exact hk.2 | exact hk.1 | exact hk | exact hk.1.2 | exact hk.1.1 | exact hk.2.1 | exact hk.2.2))).2.1 (Kd.R_F (Kd.R_mono (ok' := (fun k_ => k_ ≠ gb187)) (Kd.R_types (HO190.out) BK187.out (by decide)) (fun k_ hk => by first | exact hk.2 | exact hk.2 | exact hk.1 | exact hk | exact hk.1.2 | exact hk.1.1 | exact hk.2.1 | exact hk.2.2))))) (Reps.one (show Kd.FK (Kd.slice 5 (Kd.int .u8)) _ _ t191 [.slice Ao57 t191.length co57] from (Kd.FK_slice_mk (Kd.R_reads' (Kd.R_mono (ok' := (fun k_ => k_ ≠ gb187)) (Kd.R_types (HO193.out) BK187.out (by decide)) (fun k_ hk => by first | exact hk.2 | exact hk.2 | exact hk.1 | exact hk | exact hk.1.2 | exact hk.1.1 | exact hk.2.1 | exact hk.2.2))).2.1 (Kd.R_F (Kd.R_mono (ok' := (fun k_ => k_ ≠ gb187)) (Kd.R_types (HO193.out) BK187.out (by decide)) (fun k_ hk => by first | exact hk.2 | exact hk.2 | exact hk.1 | exact hk | exact hk.1.2 | exact hk.1.1 | exact hk.2.1 | exact hk.2.2))))) (Reps.one (show Kd.FK (Kd.slice 5 (Kd.int .u8)) _ _ t194 [.slice Ao58 t194.length co58] from (Kd.FK_slice_mk (Kd.R_reads' (Kd.R_mono (ok' := (fun k_ => k_ ≠ gb187)) (Kd.R_types (HO196.out) BK187.out (by decide)) (fun k_ hk => by first | exact hk.2 | exact hk.2 | exact hk.1 | exact hk | exact hk.1.2 | exact hk.1.1 | exact hk.2.1 | exact hk.2.2))).2.1 (Kd.R_F (Kd.R_mono (ok' := (fun k_ => k_ ≠ gb187)) (Kd.R_types (HO196.out) BK187.out (by decide)) (fun k_ hk => by first | exact hk.2 | exact hk.2 | exact hk.1 | exact hk | exact hk.1.2 | exact hk.1.1 | exact hk.2.1 | exact hk.2.2))))) (Reps.one (show Kd.FK (Kd.slice 5 (Kd.int .u8)) _ _ y197 [.slice Ao59 y197.length co59] from (Kd.FK_slice_mk (Kd.R_reads' (Kd.R_mono (ok' := (fun k_ => k_ ≠ gb187)) (Kd.R_types (HO199.out) BK187.out (by decide)) (fun k_ hk => by first | exact hk.2 | exact hk.2 | exact hk.1 | exact hk | exact hk.1.2 | exact hk.1.1 | exact hk.2.1 | exact hk.2.2))).2.1 (Kd.R_F (Kd.R_mono (ok' := (fun k_ => k_ ≠ gb187)) (Kd.R_types (HO199.out) BK187.out (by decide)) (fun k_ hk => by first | exact hk.2 | exact hk.2 | exact hk.1 | exact hk | exact hk.1.2 | exact hk.1.1 | exact hk.2.1 | exact hk.2.2))))) (Reps.one (show Kd.FK (Kd.slice 5 (Kd.int .u8)) _ _ y200 [.slice Ao60 y200.length co60] from (Kd.FK_slice_mk (Kd.V_reads' (Kd.V_mono (ok' := (fun k_ => k_ ≠ gb187)) (HO202.out) (fun k_ hk => by first | exact hk.2.2.2.2 | exact hk | exact hk.2 | exact hk.1 | exact hk.1.2 | exact hk.1.1 | exact hk.2.1 | exact hk.2.2))).2.1 (Kd.V_F (Kd.V_mono (ok' := (fun k_ => k_ ≠ gb187)) (HO202.out) (fun k_ hk => by first | exact hk.2.2.2.2 | exact hk | exact hk.2 | exact hk.1 | exact hk.1.2 | exact hk.1.1 | exact hk.2.1 | exact hk.2.2))))) (Reps.none _ _)))))))
                intro v204 w61 ho62 hb hg_ hnew_
                clear hg_ hnew_
                (first | rw [← Ny203.out] at ho62 | (simp only [Int.reduceToNat] at ho62; rw [← Ny203.out] at ho62))
                have n0_ := Aside0.mk (Kd.V_elder' (by (with_reducible repeat (first | apply Kd.V_alloc | apply Kd.V_drewN | apply Kd.V_drew)); exact HO202.out) (Kd.N_base ho62) hb)
                have n1_ := Aside0.mk (Kd.N_lower ho62 (below_size (by repeat (first | (with_reducible first | exact HB.out | apply below_alloc | apply pw_below_drewN | apply below_drew1 | refine below_set ?_ GE187.out) | exact HB.out))))
                have n2_ := Aside0.mk (blk_below (g := gb187) (o := .cells #[.int .i64 a2_0, .int .i64 a2_1, .string a2_2] 60 (0, 0)) (by (with_reducible repeat (first | refine blk_drewN ?_ _ | refine blk_drew ?_ | refine blk_alloc ?_ _)); exact BK187.out) hb)
                have n3_ := Aside0.mk (below_step (by repeat (first | (with_reducible first | exact HB.out | apply below_alloc | apply pw_below_drewN | apply below_drew1 | refine below_set ?_ GE187.out) | exact HB.out)) hb)
                clear HO202
                clear BK187
                clear HB
                clear HO190
                clear HO193
                clear HO196
                clear HO199
                have HO202 := n0_
                have HO205 := n1_
                have BK187 := n2_
                have HB := n3_
                clear n0_ n1_ n2_ n3_
                clear hb ho62
                refine hK.out _ _ ⟨.slice Ao56 t188.length co56, .slice Ao57 t191.length co57, .slice Ao58 t194.length co58, .slice Ao59 y197.length co59, .slice Ao60 y200.length co60, v204, v207, m17_, (by rw [ha.out]; exact putSel_upk 11 hb_ rfl rfl rfl), (by (with_reducible repeat (first | refine blk_drewN ?_ _ | refine blk_drew ?_ | refine blk_alloc ?_ _)); exact BK187.out), (by repeat (first | (with_reducible first | exact HB.out | apply below_alloc | apply pw_below_drewN | apply below_drew1 | refine below_set ?_ GE187.out) | exact HB.out)), fun _ h1_ => absurd ((up_self b 15).symm.trans h1_) (by decide), fun _ h1_ => absurd ((up_self b 15).symm.trans h1_) (by decide), fun _ h1_ => absurd ((up_self b 15).symm.trans h1_) (by decide), fun _ h1_ => absurd ((up_self b 15).symm.trans h1_) (by decide), fun _ => (by (with_reducible repeat (first | apply Kd.V_alloc | apply Kd.V_drewN | apply Kd.V_drew)); exact Kd.V_mono HO202.out (fun _ hk => by first | exact ⟨hk.2, hk.1.2.2.2.2⟩ | exact hk.2 | exact hk.1 | exact hk | exact hk.1.2 | exact hk.1.1 | exact hk.2.1 | exact hk.2.2)), fun _ => (by (with_reducible repeat (first | apply Kd.N_alloc | apply Kd.N_drewN | apply Kd.N_drew)); exact HO205.out), fun h0_ => absurd ((hoff 16 (by kernel_rfl)).symm.trans h0_) (by decide), fun h0_ => absurd ((hoff 17 (by kernel_rfl)).symm.trans h0_) (by decide)⟩
              refine steps_cons ?_ ?_
              · rintro b a w' ⟨v189, v192, v195, v198, v201, v204, v207, m17_, ha, Q_BK187, Q_HB, Q_HO190, Q_HO193, Q_HO196, Q_HO199, Q_HO202, Q_HO205, Q_HO208, Q_X17_⟩ hb_ hon hoff
                refine ⟨_, rfl, fun K hK => ?_⟩
                have e24 : a.tmps[24]? = some (v204) := by rw [ha]; exact putSel_on (e := (15, 24, v204)) 11 rfl rfl (hon 15 (by kernel_rfl)) rfl
                replace ha := Aside0.mk ha
                have BK187 := Aside0.mk Q_BK187
                have HB := Aside0.mk Q_HB
                have HO202 := Aside0.mk (Q_HO202 (hon 14 (by kernel_rfl)))
                have HO205 := Aside0.mk (Q_HO205 (hon 15 (by kernel_rfl)))
                obtain ⟨Ao63, co63, eo63⟩ := Kd.N_slice HO205.out
                (first | subst eo63 | (injection eo63 with f1_ f2_ f3_; have f4_ := f1_.symm; have f5_ := f3_.symm; clear f1_ f2_ f3_; subst f4_; subst f5_))
                refine goes_ Try.func74 (by kernel_rfl) rfl #[.slice Ao63 y203.length co63] (by rfl) rfl rfl (by first | (simp only [List.map_toArray, List.map_cons, List.map_nil, Act.eval, Array.getD_eq_getD_getElem?, Option.getD_some, e24]; done) | (simp only [List.map_toArray, List.map_cons, List.map_nil, Act.eval, Array.getD_eq_getD_getElem?, Option.getD_some, e24]; rfl)) ?_
                with_reducible refine (slices_Concat_byte_byte.calls k _ _ y203 t206 _ ?side1 ?side2 A9.out).mono ?_
                (case side1 => repeat (first | exact (Kd.N_reads' HO205.out).2.2 | (with_reducible refine Kd.C_alloc ?_ _) | (with_reducible refine Kd.C_drewN ?_ _) | (with_reducible refine Kd.C_drew ?_)))
                (case side2 => exact (Kd.N_reads' HO205.out).2.1)
                rintro e w64 ⟨v207, rfl, ho0, hb⟩
                refine ⟨_, rfl, ?_⟩
                have n0_ := Aside0.mk (Kd.V_elder' (by (with_reducible repeat (first | apply Kd.V_alloc | apply Kd.V_drewN | apply Kd.V_drew)); exact HO202.out) (Kd.R_base ho0) hb)
                have n1_ := Aside0.mk (Kd.N_elder' (by (with_reducible repeat (first | apply Kd.N_alloc | apply Kd.N_drewN | apply Kd.N_drew)); exact HO205.out) (Kd.R_base ho0) hb)
                have n2_ := Aside0.mk (Kd.R_lower ho0 (below_size (by repeat (first | (with_reducible first | exact HB.out | apply below_alloc | apply pw_below_drewN | apply below_drew1 | refine below_set ?_ GE187.out) | exact HB.out))))
                have n3_ := Aside0.mk (blk_below (g := gb187) (o := .cells #[.int .i64 a2_0, .int .i64 a2_1, .string a2_2] 60 (0, 0)) (by (with_reducible repeat (first | refine blk_drewN ?_ _ | refine blk_drew ?_ | refine blk_alloc ?_ _)); exact BK187.out) hb)
                have n4_ := Aside0.mk (below_step (by repeat (first | (with_reducible first | exact HB.out | apply below_alloc | apply pw_below_drewN | apply below_drew1 | refine below_set ?_ GE187.out) | exact HB.out)) hb)
                clear HO202
                clear HO205
                clear BK187
                clear HB
                have HO202 := n0_
                have HO205 := n1_
                have HO208 := n2_
                have BK187 := n3_
                have HB := n4_
                clear n0_ n1_ n2_ n3_ n4_
                (try clear hb)
                (try clear hb2)
                (try clear hk)
                (try clear hi)
                (try clear ho0)
                refine hK.out _ _ ⟨v189, v192, v195, v198, v201, .slice Ao63 y203.length co63, v207, m17_, (by rw [ha.out]; exact putSel_upk 12 hb_ rfl rfl rfl), (by (with_reducible repeat (first | refine blk_drewN ?_ _ | refine blk_drew ?_ | refine blk_alloc ?_ _)); exact BK187.out), (by repeat (first | (with_reducible first | exact HB.out | apply below_alloc | apply pw_below_drewN | apply below_drew1 | refine below_set ?_ GE187.out) | exact HB.out)), fun _ h1_ => absurd ((hon 15 (by kernel_rfl)).symm.trans h1_) (by decide), fun _ h1_ => absurd ((hon 15 (by kernel_rfl)).symm.trans h1_) (by decide), fun _ h1_ => absurd ((hon 15 (by kernel_rfl)).symm.trans h1_) (by decide), fun _ h1_ => absurd ((hon 15 (by kernel_rfl)).symm.trans h1_) (by decide), fun _ => (by (with_reducible repeat (first | apply Kd.V_alloc | apply Kd.V_drewN | apply Kd.V_drew)); exact Kd.V_mono HO202.out (fun _ hk => by first | exact ⟨hk.1.1, ⟨hk.2, hk.1.2⟩⟩ | exact hk.2 | exact hk.1 | exact hk | exact hk.1.2 | exact hk.1.1 | exact hk.2.1 | exact hk.2.2)), fun _ => (by (with_reducible repeat (first | apply Kd.N_alloc | apply Kd.N_drewN | apply Kd.N_drew)); exact Kd.N_mono HO205.out (fun _ hk => by first | exact ⟨hk.2, hk.1⟩ | exact hk.2 | exact hk.1 | exact hk | exact hk.1.2 | exact hk.1.1 | exact hk.2.1 | exact hk.2.2)), fun _ => (by (with_reducible repeat (first | apply Kd.R_alloc | apply Kd.R_drewN | apply Kd.R_drew)); first | exact HO208.out | exact Kd.R_mono HO208.out (fun _ h_ => by first | trivial | exact h_ | exact h_.1)), fun h0_ => absurd ((hoff 17 (by kernel_rfl)).symm.trans h0_) (by decide)⟩
              refine steps_cons ?_ ?_
              · rintro b a w' ⟨v189, v192, v195, v198, v201, v204, v207, m17_, ha, Q_BK187, Q_HB, Q_HO190, Q_HO193, Q_HO196, Q_HO199, Q_HO202, Q_HO205, Q_HO208, Q_X17_⟩ hb_ hon hoff
                refine ⟨_, rfl, fun K hK => ?_⟩
                have e25 : a.tmps[25]? = some (v207) := by rw [ha]; exact putSel_on (e := (16, 25, v207)) 12 rfl rfl (hon 16 (by kernel_rfl)) rfl
                replace ha := Aside0.mk ha
                have BK187 := Aside0.mk Q_BK187
                have HB := Aside0.mk Q_HB
                have HO202 := Aside0.mk (Q_HO202 (hon 14 (by kernel_rfl)))
                have HO205 := Aside0.mk (Q_HO205 (hon 15 (by kernel_rfl)))
                have HO208 := Aside0.mk (Q_HO208 (hon 16 (by kernel_rfl)))
                refine value_ (w1 := w') (v := v207) (by rfl) rfl ?_ ?_
                · go_simp
                  (try simp only [i64_w])
                  try rfl
                refine hK.out _ _ ⟨v189, v192, v195, v198, v201, v204, v207, (v207), (by rw [ha.out]; exact putSel_upk 13 hb_ rfl rfl rfl), Q_BK187, Q_HB, fun _ h1_ => absurd ((hon 15 (by kernel_rfl)).symm.trans h1_) (by decide), fun _ h1_ => absurd ((hon 15 (by kernel_rfl)).symm.trans h1_) (by decide), fun _ h1_ => absurd ((hon 15 (by kernel_rfl)).symm.trans h1_) (by decide), fun _ h1_ => absurd ((hon 15 (by kernel_rfl)).symm.trans h1_) (by decide), Q_HO202, Q_HO205, Q_HO208, fun _ => rfl⟩
              exact steps_nil
            rintro b a w64 hall ⟨v189, v192, v195, v198, v201, v204, v207, m17_, ha, Q_BK187, Q_HB, Q_HO190, Q_HO193, Q_HO196, Q_HO199, Q_HO202, Q_HO205, Q_HO208, Q_X17_⟩
            clear BK187 HB
            have hb1_ := hall 1 (by kernel_rfl)
            have hb2_ := hall 2 (by kernel_rfl)
            have hb4_ := hall 4 (by kernel_rfl)
            have hb5_ := hall 5 (by kernel_rfl)
            have hb7_ := hall 7 (by kernel_rfl)
            have hb8_ := hall 8 (by kernel_rfl)
            have hb9_ := hall 9 (by kernel_rfl)
            have hb10_ := hall 10 (by kernel_rfl)
            have hb11_ := hall 11 (by kernel_rfl)
            have hb13_ := hall 13 (by kernel_rfl)
            have hb14_ := hall 14 (by kernel_rfl)
            have hb15_ := hall 15 (by kernel_rfl)
            have hb16_ := hall 16 (by kernel_rfl)
            have hb17_ := hall 17 (by kernel_rfl)
            subst ha
            obtain rfl := Q_X17_ hb17_
            simp only [putSel, hb1_, hb2_, hb4_, hb5_, hb7_, hb8_, hb9_, hb10_, hb11_, hb13_, hb14_, hb15_, hb16_, hb17_, if_true, Act.put, List.setIfInBounds_toArray, List.set_cons_zero, List.set_cons_succ]
            have BK187 := Aside0.mk Q_BK187
            clear Q_BK187
            have HB := Aside0.mk Q_HB
            clear Q_HB
            clear Q_HO190
            clear Q_HO193
            clear Q_HO196
            clear Q_HO199
            have HO202 := Aside0.mk (Q_HO202 hb14_)
            clear Q_HO202
            have HO205 := Aside0.mk (Q_HO205 hb15_)
            clear Q_HO205
            have HO208 := Aside0.mk (Q_HO208 hb16_)
            clear Q_HO208
            clear hall hb1_ hb2_ hb4_ hb5_ hb7_ hb8_ hb9_ hb10_ hb11_ hb13_ hb14_ hb15_ hb16_ hb17_
            obtain ⟨Ao65, co65, eo65⟩ := Kd.R_slice HO208.out
            subst eo65
            try go_wp2_with (first | ((with_reducible refine gate_callee (f := 104) rfl ?_); refine goesL_ (some 29) rfl rfl Try.func104 (by kernel_rfl) rfl #[.int .i64 a0, .int .i64 a1, .int .i64 17, .slice Ao65 t206.length co65] rfl (by (try simp only [List.map_toArray, List.map_cons, List.map_nil]); first | done | rfl | (simp only [List.length_drop, List.length_take]; rfl)) ?_; (with_reducible refine (impl_withEnds.calls k a0 a1 17 (fun k_ => some k_ = (.slice Ao65 t206.length co65 : Value).ownBlock) _ _ t206 t209 _ ?side1 A10.out).mono ?_); (case side1 => exact Kd.R_V (Kd.R_tight rfl (Kd.R_types (Kd.R_apart' (HO208.out) (Kd.N_typed HO205.out) (by decide)) BK187.out (by decide)))); rintro e w66 ⟨rfl, hb⟩; refine ⟨_, rfl, ?_⟩; have n0_ := Aside0.mk (Kd.V_below (by (with_reducible repeat (first | apply Kd.V_alloc | apply Kd.V_drewN | apply Kd.V_drew)); exact HO202.out) hb); have n1_ := Aside0.mk (Kd.N_below (by (with_reducible repeat (first | apply Kd.N_alloc | apply Kd.N_drewN | apply Kd.N_drew)); exact HO205.out) hb); have n2_ := Aside0.mk (Kd.R_below (by (with_reducible repeat (first | apply Kd.R_alloc | apply Kd.R_drewN | apply Kd.R_drew)); exact HO208.out) hb); have n3_ := Aside0.mk (blk_below (g := gb187) (o := .cells #[.int .i64 a2_0, .int .i64 a2_1, .string a2_2] 60 (0, 0)) (by (with_reducible repeat (first | refine blk_drewN ?_ _ | refine blk_drew ?_ | refine blk_alloc ?_ _)); exact BK187.out) hb); have n4_ := Aside0.mk (below_step (by repeat (first | (with_reducible first | exact HB.out | apply below_alloc | apply pw_below_drewN | apply below_drew1 | refine below_set ?_ GE187.out) | exact HB.out)) hb); clear HO202; clear HO205; clear HO208; clear BK187; clear HB; have HO202 := n0_; have HO205 := n1_; have HO208 := n2_; have BK187 := n3_; have HB := n4_; clear n0_ n1_ n2_ n3_ n4_; (try clear hb); (try clear hb2); (try clear hk); (try clear hi)))
            have n0_ := Aside0.mk (Kd.V_drew HO202.out)
            have n1_ := Aside0.mk (Kd.N_drew HO205.out)
            have n2_ := Aside0.mk (Kd.R_drew HO208.out)
            have n3_ := Aside0.mk (blk_drew BK187.out)
            have n4_ := Aside0.mk (below_drew1 HB.out)
            clear HO202
            clear HO205
            clear HO208
            clear BK187
            clear HB
            have HO202 := n0_
            have HO205 := n1_
            have HO208 := n2_
            have BK187 := n3_
            have HB := n4_
            clear n0_ n1_ n2_ n3_ n4_
            obtain ⟨go69, co69, eo69, gb69, gl69, cl69, HG69⟩ := Kd.R_form HO208.out (by have hl_ : (6 : Int) ≤ ((t206.length : Int) : Int) := of_decide_eq_true (by first | (with_reducible assumption) | assumption); omega)
            (first | cases eo69 | (injection eo69 with ea_ en_ ec_; (first | subst ea_ | (injection ea_ with ea_; subst ea_)); subst ec_; clear en_))
            have GB69 := Aside0.mk gb69
            have GG69 := Aside0.mk HG69
            clear gb69 gl69 HG69
            have q68 : (6 : Int) ≤ ((t206.length : Int) : Int) := of_decide_eq_true (by first | (with_reducible assumption) | assumption)
            obtain ⟨i068, hi068, _, hsz68, _⟩ := info_parts info5
            have hroom68 : t206.length ≤ co65 := (Kd.R_reads' HO208.out).2.1
            have hC68 : Kd.F (Kd.int .u8) _ _ (some ⟨go69, 0, none⟩) t206.length t206 := (Kd.V_at (base := w.heap.size) (Kd.R_V (Kd.R_types (Kd.R_apart' (HO208.out) (Kd.N_typed HO205.out) (by decide)) BK187.out (by decide)))).2.2
            have hcut68 := cut_from (P := Try.prog) 22 5 .i64 Try.underlying22 hi068 1 hsz68 (some ⟨go69, 0, none⟩) t206.length co65 6 (by omega) q68
            have hr68 := Kd.F_cut (m := (6 : Int).toNat) (c := co65) hC68 (by omega) hroom68
            obtain ⟨A68, hA68⟩ : ∃ A1, A1 = (if co65 = (6 : Int).toNat then (some ⟨go69, 0, none⟩) else ((some ⟨go69, 0, none⟩) : Option Addr).map (·.add ((6 : Int).toNat * 1))) := ⟨_, rfl⟩
            obtain ⟨c68, hc68⟩ : ∃ c1, c1 = co65 - (6 : Int).toNat := ⟨_, rfl⟩
            have hy68 : y219.length = t206.length - (6 : Int).toNat := (by rw [Ny219.out, List.length_drop] <;> omega)
            rw [show (t206).drop (6 : Int).toNat = y219 from Ny219.out.symm] at hr68
            replace hr68 : Kd.F (Kd.int .u8) _ _ A68 y219.length y219 := (by rw [hA68]; exact hr68)
            rw [← hy68, ← hA68, ← hc68] at hcut68
            have HO223 := Aside0.mk (show Kd.V (Kd.int .u8) 5 _ w.heap.size _ (.slice A68 y219.length c68) y219 from Kd.V_mk (by rw [hy68, hc68]; exact Nat.sub_le_sub_right hroom68 _) hr68)
            have HC223 := Aside0.mk (show y219.length ≤ c68 from by rw [hy68, hc68]; exact Nat.sub_le_sub_right hroom68 _)
            clear hr68 hC68 hroom68 hi068 hsz68 hc68
            have KY68 := Aside0.mk hy68
            have KA68 := Aside0.mk hA68
            clear hy68 hA68
            replace q68 := eq_true q68
            refine start_ (n := 5) (S := fun w' => True) (ds := []) #[false, false, false, false, false] (by kernel_rfl) rfl rfl trivial (fun hHeld => ?_)
            generalize w66.drew = w67 at HO202 HO205 HO208 BK187 HB GG69 HO223 hHeld ⊢
            refine pure_ (i := 0) (N := some 32) (v := ?_) (a' := ?_) #[true, false, false, false, false] rfl rfl (by kernel_rfl) (fun _ _ _ h => h) (Or.inl ⟨by rfl, ?_⟩) ?_ ?_
            rotate_left
            · intro w'
              go_simp
              with_reducible rfl
            rotate_left
            · simp only [Act.put, List.setIfInBounds_toArray, List.set_cons_zero, List.set_cons_succ, i64_w, i32_w]
              rfl
            refine pure_ (i := 1) (N := some 33) (v := ?_) (a' := ?_) #[true, true, false, false, false] rfl rfl (by kernel_rfl) (fun _ _ _ h => h) (Or.inl ⟨by rfl, ?_⟩) ?_ ?_
            rotate_left
            · intro w'
              go_simp
              with_reducible rfl
            rotate_left
            · simp only [Act.put, List.setIfInBounds_toArray, List.set_cons_zero, List.set_cons_succ, i64_w, i32_w]
              rfl
            refine pure_ (i := 2) (N := some 34) (v := ?_) (a' := ?_) #[true, true, true, false, false] rfl rfl (by kernel_rfl) (fun _ _ _ h => h) (Or.inl ⟨by rfl, ?_⟩) ?_ ?_
            rotate_left
            · intro w'
              go_simp
              with_reducible rfl
            rotate_left
            · simp only [Act.put, List.setIfInBounds_toArray, List.set_cons_zero, List.set_cons_succ, i64_w, i32_w]
              rfl
            refine one_ (i := 3) (N := some 35) #[true, true, true, true, false] rfl rfl (by kernel_rfl) (by decide) (fun K hK => ?_)
            refine goes_ Try.func62 (by kernel_rfl) rfl #[.int .i64 t209, .int .i64 2] (by rfl) rfl rfl (by (try simp only [List.map_toArray, List.map_cons, List.map_nil]); first | done | rfl | (simp only [List.length_drop, List.length_take]; rfl)) ?_
            with_reducible refine (impl_be.calls k t209 2 t224 _ A44.out).mono ?_
            rintro e w70 ⟨v225, rfl, ho0, hb⟩
            refine ⟨_, rfl, ?_⟩
            have n0_ := Aside0.mk (Kd.V_elder' (by (with_reducible repeat (first | apply Kd.V_alloc | apply Kd.V_drewN | apply Kd.V_drew)); exact HO202.out) (Kd.R_base ho0) hb)
            have n1_ := Aside0.mk (Kd.N_elder' (by (with_reducible repeat (first | apply Kd.N_alloc | apply Kd.N_drewN | apply Kd.N_drew)); exact HO205.out) (Kd.R_base ho0) hb)
            have n2_ := Aside0.mk (Kd.R_elder' (by (with_reducible repeat (first | apply Kd.R_alloc | apply Kd.R_drewN | apply Kd.R_drew)); exact HO208.out) (Kd.R_base ho0) hb)
            have n3_ := Aside0.mk (Kd.V_elder' (by (with_reducible repeat (first | apply Kd.V_alloc | apply Kd.V_drewN | apply Kd.V_drew)); exact HO223.out) (Kd.R_base ho0) hb)
            have n4_ := Aside0.mk (Kd.R_lower (Kd.R_new' ho0 (Kd.R_lt (by (with_reducible repeat (first | apply Kd.R_alloc | apply Kd.R_drewN | apply Kd.R_drew)); exact HO208.out))) (below_size (by repeat (first | (with_reducible first | exact HB.out | apply below_alloc | apply pw_below_drewN | apply below_drew1 | refine below_set ?_ GE187.out) | exact HB.out))))
            have n5_ := Aside0.mk (blk_below (g := gb187) (o := .cells #[.int .i64 a2_0, .int .i64 a2_1, .string a2_2] 60 (0, 0)) (by (with_reducible repeat (first | refine blk_drewN ?_ _ | refine blk_drew ?_ | refine blk_alloc ?_ _)); exact BK187.out) hb)
            have n6_ := Aside0.mk (below_step (by repeat (first | (with_reducible first | exact HB.out | apply below_alloc | apply pw_below_drewN | apply below_drew1 | refine below_set ?_ GE187.out) | exact HB.out)) hb)
            clear HO202
            clear HO205
            clear HO208
            clear HO223
            clear BK187
            clear HB
            have HO202 := n0_
            have HO205 := n1_
            have HO208 := n2_
            have HO223 := n3_
            have HO226 := n4_
            have BK187 := n5_
            have HB := n6_
            clear n0_ n1_ n2_ n3_ n4_ n5_ n6_
            (try clear hb)
            (try clear hb2)
            (try clear hk)
            (try clear hi)
            (try clear ho0)
            obtain ⟨Ao73, co73, eo73⟩ := Kd.R_slice HO226.out
            (first | subst eo73 | (injection eo73 with f1_ f2_ f3_; have f4_ := f1_.symm; have f5_ := f3_.symm; clear f1_ f2_ f3_; subst f4_; subst f5_))
            have n_ := Aside0.mk (Kd.R_mono (ok' := (fun k_ => some k_ ≠ (.slice Ao73 t224.length co73 : Value).ownBlock)) HO208.out (fun k_ hk => by first | exact hk.2 | exact hk.2 | exact hk.1 | exact hk | exact hk.1.2 | exact hk.1.1 | exact hk.2.1 | exact hk.2.2))
            clear HO208
            have HO208 := n_
            clear n_
            refine hK.out _ _ trivial (fun hHeld => ?_)
            clear hK K
            refine norm_ (a' := ?_) ?_ ?_
            rotate_left
            · show Act.put _ (some 35) _ = _
              simp only [Act.put, List.setIfInBounds_toArray, List.set_cons_zero, List.set_cons_succ, i64_w, i32_w]
              rfl
            refine one_ (i := 4) (N := some 36) #[true, true, true, true, true] rfl rfl (by kernel_rfl) (by decide) (fun K hK => ?_)
            have hl_ := LMc45.out
            have hr_ := (Kd.R_reads' (HO208.out)).1
            refine Kd.R_copy_step (k0 := .u8) (w0 := w) w.heap.size (by rfl) (.tmp 33) (.tmp 35) 22 22 5 rfl Try.underlying22 (by kernel_rfl) (g := go69) (n := t206.length) (c := co65) (k := (6 : Int).toNat) (m := t224.length) (ys := t224) rfl rfl ?hn ?hA (by (with_reducible repeat (first | apply Kd.R_alloc | apply Kd.R_drewN | apply Kd.R_drew)); exact HO208.out) (Kd.R_reads' HO226.out).2.2 ?hk (by repeat (first | (with_reducible first | exact HB.out | apply below_alloc | apply pw_below_drewN | apply below_drew1 | refine below_set ?_ GE187.out) | exact HB.out)) (below_size (by repeat (first | (with_reducible first | exact HB.out | apply below_alloc | apply pw_below_drewN | apply below_drew1 | refine below_set ?_ GE187.out) | exact HB.out))) ?_
            (case hn => exact KY68.out)
            (case hA => exact KA68.out)
            (case hk => omega)
            intro w71 ho hb hg
            clear hl_ hr_
            rw [← Ny227.out] at ho
            have n0_ := Aside0.mk (blk_grown (g := gb187) (o := .cells #[.int .i64 a2_0, .int .i64 a2_1, .string a2_2] 60 (0, 0)) (by (with_reducible repeat (first | refine blk_drewN ?_ _ | refine blk_drew ?_ | refine blk_alloc ?_ _)); exact BK187.out) hg (Kd.R_ne HO208.out BK187.out (by decide)))
            have n1_ := Aside0.mk (ho)
            have n2_ := Aside0.mk (hb)
            clear BK187
            clear HO208
            clear HB
            clear HO202
            clear HO205
            clear HO223
            clear HO226
            have BK187 := n0_
            have HO208 := n1_
            have HB := n2_
            clear n0_ n1_ n2_
            clear ho hb hg
            refine hK.out _ _ trivial (fun hHeld => ?_)
            clear hK K
            refine norm_ (a' := ?_) ?_ ?_
            rotate_left
            · show Act.put _ (some 36) _ = _
              simp only [Act.put, List.setIfInBounds_toArray, List.set_cons_zero, List.set_cons_succ, i64_w, i32_w]
              rfl
            refine done_ (by kernel_rfl) ?_
            try go_wp2
            go_ret
            exact ⟨_, by first | rfl | (simp [errW_none, errW_some] <;> rfl) | (simp [*, errW_none, errW_some] <;> rfl), by (with_reducible repeat (first | apply Kd.R_alloc | apply Kd.R_drewN | apply Kd.R_drew)); exact Kd.R_mono HO208.out (fun _ hk => trivial), by repeat (first | (with_reducible first | exact HB.out | apply below_alloc | apply pw_below_drewN | apply below_drew1 | refine below_set ?_ GE187.out) | exact HB.out)⟩
          · rw [if_neg c45] at H
            exact absurd H (by simp)
        · rw [if_neg c43] at H
          exact absurd H (by simp)
    · rw [if_neg c8] at H
      exact absurd H (by simp)
  · rw [if_neg c7] at H
    exact absurd H (by simp)

end Go.Proofs.Ythfhflgiblmooaa.PDb
