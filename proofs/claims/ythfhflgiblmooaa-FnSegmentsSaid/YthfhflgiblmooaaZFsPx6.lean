-- Printed by this session's own program (wip/tools/myprint.py over the kit's print, out of the translation). Nothing here is trusted: Lean checks it.
import Derived.Test.YthfhflgiblmooaaZFsPx0
import Derived.Test.YthfhflgiblmooaaZFsPx5
namespace Go.Proofs.Ythfhflgiblmooaa.PFs
open Go.RowKit Go.Proofs.YthfhflgiblmooaaW.PrintWords Go.Proofs.YthfhflgiblmooaaW.PrintLast Go.Proofs.YthfhflgiblmooaaW.PrintMore
attribute [local go_sem] w64_u8 w64_u8_4 max2_int min2_int max_two min_two max_three min_three max_four min_four   -- for this text's walks alone
set_option linter.unusedVariables false
set_option linter.unusedSimpArgs false

/-! ### impl_datagramBytes: function 83 -/
def impl_datagramBytes.j0 : Nat → List Int → Int → Option (List Int)
 | 0, _, _ => none
 | k + 1, x7, x8 => if 6 ≤ (x7.length : Int) then ((impl_be.f k x8 2).bind fun t194 => (if (6 : Int).toNat + t194.length ≤ x7.length then (some (x7.take (6 : Int).toNat ++ t194 ++ x7.drop ((6 : Int).toNat + t194.length))) else (none))) else (none)
def impl_datagramBytes.f (k : Nat) (a0 : Int) (a1 : Int) (a2_0 : Int) (a2_1 : Int) (a2_2 : ByteArray) : Option (List Int) := (impl_be.f k a2_0 2).bind fun t167 => ((impl_be.f k a2_1 2).bind fun t170 => ((impl_be.f k (wrap64 (8 + (a2_2.size : Int))) 2).bind fun t173 => (if 2 ≤ 281474976710656 then (if a2_2.size ≤ 140737488355328 then ((slices_Concat_byte_byte.f k (([t167, t170, t173, (List.replicate 2 0), (bytesOf a2_2)] : List (List Int)))).bind fun t185 => ((impl_withEnds.f k a0 a1 17 t185).bind fun t188 => (if t188 = 0 then (impl_datagramBytes.j0 k t185 65535) else (impl_datagramBytes.j0 k t185 t188)))) else (none)) else (none))))
def impl_datagramBytes.T1 : Bool × List (List Nat × List Nat) := (true, [([], []), ([0], [0]), ([1], [1]), ([], []), ([3], [3]), ([4, 2], [4]), ([], []), ([6], [6]), ([7], [7]), ([8], [8]), ([9, 5], [9]), ([], []), ([], []), ([12], [12]), ([13], [13]), ([2, 5, 10, 11, 14], [2, 5, 10, 11, 14]), ([15, 10], [15]), ([16, 16, 0, 1, 2, 3, 4, 5, 6, 7, 8, 9, 10, 11, 12, 13, 14, 15, 16], [16])])
def impl_datagramBytes.B1 : List Nat := [0, 1, 3, 0, 8, 31, 0, 64, 192, 448, 1023, 0, 0, 4096, 12288, 32767, 65535, 131071]
theorem impl_datagramBytes.tab1 : rtab .any (opsOf Try.f83 1) = impl_datagramBytes.T1 := by kernel_rfl
theorem impl_datagramBytes.bits1 : waitsOk impl_datagramBytes.T1.2 impl_datagramBytes.B1 = true := by kernel_rfl
set_option maxHeartbeats 8000000 in
set_option maxRecDepth 100000 in
theorem impl_datagramBytes.calls (k : Nat) (a0 : Int) (a1 : Int) (a2_0 : Int) (a2_1 : Int) (a2_2 : ByteArray) (r : List Int) (w : World) (h : impl_datagramBytes.f k a0 a1 a2_0 a2_1 a2_2 = some r) :
  Calls Try.prog 83 #[.int .i64 a0, .int .i64 a1, .agg #[.int .i64 a2_0, .int .i64 a2_1, .string a2_2]] w fun e w' => ∃ v0_ : Value, e = .returned (v0_) ∧ Kd.R (Kd.int .u8) 5 w' w.heap.size (fun _ => True) v0_ r ∧ Below w.heap.size w w' := by
 have hu60 := Try.underlying60
 have HB := Aside0.mk (Below.refl w.heap.size w)
 have H : ((impl_be.f k a2_0 2).bind fun t167 => ((impl_be.f k a2_1 2).bind fun t170 => ((impl_be.f k (wrap64 (8 + (a2_2.size : Int))) 2).bind fun t173 => (if 2 ≤ 281474976710656 then (if a2_2.size ≤ 140737488355328 then ((slices_Concat_byte_byte.f k (([t167, t170, t173, (List.replicate 2 0), (bytesOf a2_2)] : List (List Int)))).bind fun t185 => ((impl_withEnds.f k a0 a1 17 t185).bind fun t188 => (if t188 = 0 then (impl_datagramBytes.j0 k t185 65535) else (impl_datagramBytes.j0 k t185 t188)))) else (none)) else (none))))) = some r := h
 clear h
 replace H := Option.bind_eq_some_iff.mp H
 obtain ⟨t167, A40, H⟩ := H
 replace H : ((impl_be.f k a2_1 2).bind fun t170 => ((impl_be.f k (wrap64 (8 + (a2_2.size : Int))) 2).bind fun t173 => (if 2 ≤ 281474976710656 then (if a2_2.size ≤ 140737488355328 then ((slices_Concat_byte_byte.f k (([t167, t170, t173, (List.replicate 2 0), (bytesOf a2_2)] : List (List Int)))).bind fun t185 => ((impl_withEnds.f k a0 a1 17 t185).bind fun t188 => (if t188 = 0 then (impl_datagramBytes.j0 k t185 65535) else (impl_datagramBytes.j0 k t185 t188)))) else (none)) else (none)))) = some r := H
 have A4 := Aside0.mk A40
 clear A40
 replace H := Option.bind_eq_some_iff.mp H
 obtain ⟨t170, A50, H⟩ := H
 replace H : ((impl_be.f k (wrap64 (8 + (a2_2.size : Int))) 2).bind fun t173 => (if 2 ≤ 281474976710656 then (if a2_2.size ≤ 140737488355328 then ((slices_Concat_byte_byte.f k (([t167, t170, t173, (List.replicate 2 0), (bytesOf a2_2)] : List (List Int)))).bind fun t185 => ((impl_withEnds.f k a0 a1 17 t185).bind fun t188 => (if t188 = 0 then (impl_datagramBytes.j0 k t185 65535) else (impl_datagramBytes.j0 k t185 t188)))) else (none)) else (none))) = some r := H
 have A5 := Aside0.mk A50
 clear A50
 replace H := Option.bind_eq_some_iff.mp H
 obtain ⟨t173, A60, H⟩ := H
 replace H : (if 2 ≤ 281474976710656 then (if a2_2.size ≤ 140737488355328 then ((slices_Concat_byte_byte.f k (([t167, t170, t173, (List.replicate 2 0), (bytesOf a2_2)] : List (List Int)))).bind fun t185 => ((impl_withEnds.f k a0 a1 17 t185).bind fun t188 => (if t188 = 0 then (impl_datagramBytes.j0 k t185 65535) else (impl_datagramBytes.j0 k t185 t188)))) else (none)) else (none)) = some r := H
 have A6 := Aside0.mk A60
 clear A60
 by_cases c7 : 2 ≤ 281474976710656
 ·rw [if_pos c7] at H
  have c7b0 := eq_true c7
  have c7b1 : decide (2 ≤ 281474976710656) = true := decide_eq_true c7
  clear c7
  obtain ⟨y176, hy176⟩ : ∃ y_ : List Int, y_ = (List.replicate 2 0) := ⟨_, rfl⟩
  replace H : (if a2_2.size ≤ 140737488355328 then ((slices_Concat_byte_byte.f k (([t167, t170, t173, y176, (bytesOf a2_2)] : List (List Int)))).bind fun t185 => ((impl_withEnds.f k a0 a1 17 t185).bind fun t188 => (if t188 = 0 then (impl_datagramBytes.j0 k t185 65535) else (impl_datagramBytes.j0 k t185 t188)))) else (none)) = some r := by first | (rw [hy176]; with_reducible exact H) | (have H2_ := (Option.bind_some _ _).symm.trans H; rw [hy176]; with_reducible exact H2_) | (have H2_ := (Option.bind_some _ _).symm.trans H; with_reducible exact H2_) | with_reducible exact H | (rw [hy176]; exact H) | exact H
  have Ny176 := Aside0.mk hy176
  clear hy176
  by_cases c8 : a2_2.size ≤ 140737488355328
  ·rw [if_pos c8] at H
   have c8b0 := eq_true c8
   have c8b1 : decide (a2_2.size ≤ 140737488355328) = true := decide_eq_true c8
   clear c8
   obtain ⟨y179, hy179⟩ : ∃ y_ : List Int, y_ = (bytesOf a2_2) := ⟨_, rfl⟩
   replace H : ((slices_Concat_byte_byte.f k (([t167, t170, t173, y176, y179] : List (List Int)))).bind fun t185 => ((impl_withEnds.f k a0 a1 17 t185).bind fun t188 => (if t188 = 0 then (impl_datagramBytes.j0 k t185 65535) else (impl_datagramBytes.j0 k t185 t188)))) = some r := by first | (rw [hy179]; with_reducible exact H) | (have H2_ := (Option.bind_some _ _).symm.trans H; rw [hy179]; with_reducible exact H2_) | (have H2_ := (Option.bind_some _ _).symm.trans H; with_reducible exact H2_) | with_reducible exact H | (rw [hy179]; exact H) | exact H
   have Ny179 := Aside0.mk hy179
   clear hy179
   obtain ⟨y182, hy182⟩ : ∃ y_ : List (List Int), y_ = (([t167, t170, t173, y176, y179] : List (List Int))) := ⟨_, rfl⟩
   replace H : ((slices_Concat_byte_byte.f k y182).bind fun t185 => ((impl_withEnds.f k a0 a1 17 t185).bind fun t188 => (if t188 = 0 then (impl_datagramBytes.j0 k t185 65535) else (impl_datagramBytes.j0 k t185 t188)))) = some r := by first | (rw [hy182]; with_reducible exact H) | (have H2_ := (Option.bind_some _ _).symm.trans H; rw [hy182]; with_reducible exact H2_) | (have H2_ := (Option.bind_some _ _).symm.trans H; with_reducible exact H2_) | with_reducible exact H | (rw [hy182]; exact H) | exact H
   have Ny182 := Aside0.mk hy182
   clear hy182
   replace H := Option.bind_eq_some_iff.mp H
   obtain ⟨t185, A90, H⟩ := H
   replace H : ((impl_withEnds.f k a0 a1 17 t185).bind fun t188 => (if t188 = 0 then (impl_datagramBytes.j0 k t185 65535) else (impl_datagramBytes.j0 k t185 t188))) = some r := H
   have A9 := Aside0.mk A90
   clear A90
   replace H := Option.bind_eq_some_iff.mp H
   obtain ⟨t188, A100, H⟩ := H
   replace H : (if t188 = 0 then (impl_datagramBytes.j0 k t185 65535) else (impl_datagramBytes.j0 k t185 t188)) = some r := H
   have A10 := Aside0.mk A100
   clear A100
   have HC11 := Aside0.mk H
   clear H
   go_enter Try.func83, Try.ntmps83
   try go_wp2_with (first | ((with_reducible refine gate_dst (N := 5) rfl ?_); refine box_event ?hg (N := 5) ?hd (cs := #[.int .i64 a2_0, .int .i64 a2_1, .string a2_2]) (t := 60) ?hr ?_; (case hd => rfl); (case hg => rfl); (case hr => first | (go_simp; done) | (go_simp; rfl)); intro gb166 hg w12 hbox hb; have n0_ := Aside0.mk (below_step (by repeat (first | (with_reducible first | exact HB.out | apply below_alloc | apply pw_below_drewN | apply below_drew1) | exact HB.out)) hb); have n1_ := Aside0.mk (hbox); have n2_ := Aside0.mk ((by rw [hg]; exact (below_size (by repeat (first | (with_reducible first | exact HB.out | apply below_alloc | apply pw_below_drewN | apply below_drew1) | exact HB.out))) : w.heap.size ≤ gb166)); have n3_ := Aside0.mk ((by rw [hg]; exact (below_size (by repeat (first | (with_reducible first | exact HB.out | apply below_alloc | apply pw_below_drewN | apply below_drew1) | exact HB.out))) : w.heap.size ≤ gb166)); clear HB; have HB := n0_; have BK166 := n1_; have GW166 := n2_; have GE166 := n3_; clear n0_ n1_ n2_ n3_; clear hb hbox hg))
   have n0_ := Aside0.mk (blk_drew BK166.out)
   have n1_ := Aside0.mk (below_drew1 HB.out)
   clear BK166
   clear HB
   have BK166 := n0_
   have HB := n1_
   clear n0_ n1_
   refine start_ (n := 18) (S := fun w' => True) (ds := []) #[false, false, false, false, false, false, false, false, false, false, false, false, false, false, false, false, false, false] (by kernel_rfl) rfl rfl trivial (fun hHeld => ?_); refine with_tabW impl_datagramBytes.tab1 impl_datagramBytes.bits1 (fun HT_ HW_ => ?_)
   generalize w12.drew = w13 at BK166 HB hHeld ⊢
   refine pure_ (i := 0) (N := some 9) (v := ?_) (a' := ?_) #[true, false, false, false, false, false, false, false, false, false, false, false, false, false, false, false, false, false] rfl rfl (any_of HT_.out (by kernel_rfl)) (fun _ _ _ h => h) (Or.inl ⟨by rfl, ?_⟩) ?_ ?_
   rotate_left
   ·intro w'
    go_simp
    with_reducible rfl
   rotate_left
   ·simp only [Act.put, List.setIfInBounds_toArray, List.set_cons_zero, List.set_cons_succ, i64_w, i32_w]
    rfl
   refine pure_ (i := 3) (N := some 12) (v := ?_) (a' := ?_) #[true, false, false, true, false, false, false, false, false, false, false, false, false, false, false, false, false, false] rfl rfl (any_of HT_.out (by kernel_rfl)) (fun _ _ _ h => h) (Or.inl ⟨by rfl, ?_⟩) ?_ ?_
   rotate_left
   ·intro w'
    go_simp
    with_reducible rfl
   rotate_left
   ·simp only [Act.put, List.setIfInBounds_toArray, List.set_cons_zero, List.set_cons_succ, i64_w, i32_w]
    rfl
   refine pure_ (i := 6) (N := some 15) (v := ?_) (a' := ?_) #[true, false, false, true, false, false, true, false, false, false, false, false, false, false, false, false, false, false] rfl rfl (any_of HT_.out (by kernel_rfl)) (fun _ _ _ h => h) (Or.inl ⟨by rfl, ?_⟩) ?_ ?_
   rotate_left
   ·intro w'
    go_simp
    with_reducible rfl
   rotate_left
   ·simp only [Act.put, List.setIfInBounds_toArray, List.set_cons_zero, List.set_cons_succ, i64_w, i32_w]
    rfl
   refine pure_ (i := 12) (N := some 21) (v := ?_) (a' := ?_) #[true, false, false, true, false, false, true, false, false, false, false, false, true, false, false, false, false, false] rfl rfl (any_of HT_.out (by kernel_rfl)) (fun _ _ _ h => h) (Or.inl ⟨by rfl, ?_⟩) ?_ ?_
   rotate_left
   ·intro w'
    go_simp
    with_reducible rfl
   rotate_left
   ·simp only [Act.put, List.setIfInBounds_toArray, List.set_cons_zero, List.set_cons_succ, i64_w, i32_w]
    rfl
   refine inv_at [1, 2, 4, 5, 7, 8, 9, 10, 11, 13, 14, 15, 16, 17] (fun a0_ b a w' => ∃ (v168 : Value) (v171 : Value) (v174 : Value) (v177 : Value) (v180 : Value) (v183 : Value) (v186 : Value) (m17_ : Value), a = putSel a0_ b [(1, 10, .int .i64 a2_0), (2, 11, v168), (4, 13, .int .i64 a2_1), (5, 14, v171), (7, 16, .string a2_2), (8, 17, .int .i64 (a2_2.size : Int)), (9, 18, .int .i64 (wrap64 (8 + (a2_2.size : Int)))), (10, 19, v174), (11, 20, v177), (13, 22, .string a2_2), (14, 23, v180), (15, 24, v183), (16, 25, v186), (17, 7, m17_)] ∧ (w'.heap[gb166]? = some (.cells #[.int .i64 a2_0, .int .i64 a2_1, .string a2_2] 60 (0, 0))) ∧ (Below w.heap.size w w') ∧ (b 2 = true → b 15 = false → Kd.R (Kd.int .u8) 5 w' w.heap.size (fun _ => True) v168 t167) ∧ (b 5 = true → b 15 = false → Kd.R (Kd.int .u8) 5 w' w.heap.size (fun _ => True) v171 t170) ∧ (b 10 = true → b 15 = false → Kd.R (Kd.int .u8) 5 w' w.heap.size (fun _ => True) v174 t173) ∧ (b 11 = true → b 15 = false → Kd.R (Kd.int .u8) 5 w' w.heap.size (fun _ => True) v177 y176) ∧ (b 14 = true → Kd.V (Kd.int .u8) 5 w' w.heap.size (fun k_ => k_ ≠ gb166) v180 y179) ∧ (b 15 = true → Kd.N (Kd.slice 5 (Kd.int .u8)) 22 w' w.heap.size (fun k_ => k_ ≠ gb166) v183 y182) ∧ (b 16 = true → Kd.R (Kd.int .u8) 5 w' w.heap.size (fun _ => True) v186 t185) ∧ (b 17 = true → (m17_ : Value) = v186)) HT_.out HW_.out (by kernel_rfl) (by kernel_rfl) ?_ ?_ ?_
   ·exact ⟨.bool false, .bool false, .bool false, .bool false, .bool false, .bool false, .bool false, .bool false, by simp only [putSel, Bool.false_eq_true, if_false], BK166.out, HB.out, fun h_ => absurd h_ (by decide), fun h_ => absurd h_ (by decide), fun h_ => absurd h_ (by decide), fun h_ => absurd h_ (by decide), fun h_ => absurd h_ (by decide), fun h_ => absurd h_ (by decide), fun h_ => absurd h_ (by decide), fun h_ => absurd h_ (by decide)⟩
   ·skip
    clear BK166 HB
    refine steps_cons ?_ ?_
    ·rintro b a w' ⟨v168, v171, v174, v177, v180, v183, v186, m17_, ha, Q_BK166, Q_HB, Q_HO169, Q_HO172, Q_HO175, Q_HO178, Q_HO181, Q_HO184, Q_HO187, Q_X17_⟩ hb_ hon hoff
     refine ⟨_, rfl, fun K hK => ?_⟩
     have e9 : a.tmps[9]? = some (.pointer (some ⟨gb166, 0, none⟩)) := by rw [ha]; exact (putSel_off rfl).trans rfl
     replace ha := Aside0.mk ha
     have BK166 := Aside0.mk Q_BK166
     have HB := Aside0.mk Q_HB
     have hc0_ : w'.cell? ⟨gb166, 0, none⟩ = some (.int .i64 a2_0) := (blk_cell BK166.out 0).trans rfl
     have hc1_ : w'.cell? ⟨gb166, 1, none⟩ = some (.int .i64 a2_1) := (blk_cell BK166.out 1).trans rfl
     have hc2_ : w'.cell? ⟨gb166, 2, none⟩ = some (.string a2_2) := (blk_cell BK166.out 2).trans rfl
     refine value_ (w1 := w') (v := .int .i64 a2_0) (by rfl) rfl ?_ ?_
     ·go_simp
      (try simp only [i64_w])
      try rfl
     refine hK.out _ _ ⟨v168, v171, v174, v177, v180, v183, v186, m17_, (by rw [ha.out]; exact putSel_upk 0 hb_ rfl rfl rfl), Q_BK166, Q_HB, fun h0_ _ => absurd ((hoff 2 (by kernel_rfl)).symm.trans h0_) (by decide), fun h0_ _ => absurd ((hoff 5 (by kernel_rfl)).symm.trans h0_) (by decide), fun h0_ _ => absurd ((hoff 10 (by kernel_rfl)).symm.trans h0_) (by decide), Q_HO178, Q_HO181, fun h0_ => absurd ((hoff 15 (by kernel_rfl)).symm.trans h0_) (by decide), fun h0_ => absurd ((hoff 16 (by kernel_rfl)).symm.trans h0_) (by decide), fun h0_ => absurd ((hoff 17 (by kernel_rfl)).symm.trans h0_) (by decide)⟩
    refine steps_cons ?_ ?_
    ·rintro b a w' ⟨v168, v171, v174, v177, v180, v183, v186, m17_, ha, Q_BK166, Q_HB, Q_HO169, Q_HO172, Q_HO175, Q_HO178, Q_HO181, Q_HO184, Q_HO187, Q_X17_⟩ hb_ hon hoff
     refine ⟨_, rfl, fun K hK => ?_⟩
     have e10 : a.tmps[10]? = some (.int .i64 a2_0) := by rw [ha]; exact putSel_on (e := (1, 10, .int .i64 a2_0)) 0 rfl rfl (hon 1 (by kernel_rfl)) rfl
     replace ha := Aside0.mk ha
     have BK166 := Aside0.mk Q_BK166
     have HB := Aside0.mk Q_HB
     refine goes_ Try.func62 (by kernel_rfl) rfl #[.int .i64 a2_0, .int .i64 2] (by rfl) rfl rfl (by first | (simp only [List.map_toArray, List.map_cons, List.map_nil, Act.eval, Array.getD_eq_getD_getElem?, Option.getD_some, e10]; done) | (simp only [List.map_toArray, List.map_cons, List.map_nil, Act.eval, Array.getD_eq_getD_getElem?, Option.getD_some, e10]; rfl)) ?_
     with_reducible refine (impl_be.calls k a2_0 2 t167 _ A4.out).mono ?_
     rintro e w14 ⟨v168, rfl, ho0, hb⟩
     refine ⟨_, rfl, ?_⟩
     have n0_ := Aside0.mk (Kd.R_lower ho0 (below_size (by repeat (first | (with_reducible first | exact HB.out | apply below_alloc | apply pw_below_drewN | apply below_drew1 | refine below_set ?_ GE166.out) | exact HB.out))))
     have n1_ := Aside0.mk (blk_below (g := gb166) (o := .cells #[.int .i64 a2_0, .int .i64 a2_1, .string a2_2] 60 (0, 0)) BK166.out hb)
     have n2_ := Aside0.mk (below_step HB.out hb)
     have z_HO178 := fun (h0_ : b 11 = true) (h1_ : b 15 = false) => (show Kd.R (Kd.int .u8) 5 w14 w.heap.size (fun _ => True) v177 y176 from Kd.R_mono (Kd.R_elder' (Q_HO178 h0_ h1_) (Kd.R_base ho0) hb) (fun _ h_ => by first | trivial | exact h_ | exact h_.1))
     have z_HO181 := fun (h0_ : b 14 = true) => (show Kd.V (Kd.int .u8) 5 w14 w.heap.size (fun k_ => k_ ≠ gb166) v180 y179 from Kd.V_mono (Kd.V_elder' (Q_HO181 h0_) (Kd.R_base ho0) hb) (fun _ h_ => by first | trivial | exact h_ | exact h_.1))
     clear BK166
     clear HB
     have HO169 := n0_
     have BK166 := n1_
     have HB := n2_
     clear n0_ n1_ n2_
     (try clear hb)
     (try clear hb2)
     (try clear hk)
     (try clear hi)
     (try clear ho0)
     refine hK.out _ _ ⟨v168, v171, v174, v177, v180, v183, v186, m17_, (by rw [ha.out]; exact putSel_upk 1 hb_ rfl rfl rfl), BK166.out, HB.out, fun _ _ => (by (with_reducible repeat (first | apply Kd.R_alloc | apply Kd.R_drewN | apply Kd.R_drew)); first | exact HO169.out | exact Kd.R_mono HO169.out (fun _ h_ => by first | trivial | exact h_ | exact h_.1)), fun h0_ _ => absurd ((hoff 5 (by kernel_rfl)).symm.trans h0_) (by decide), fun h0_ _ => absurd ((hoff 10 (by kernel_rfl)).symm.trans h0_) (by decide), z_HO178, z_HO181, fun h0_ => absurd ((hoff 15 (by kernel_rfl)).symm.trans h0_) (by decide), fun h0_ => absurd ((hoff 16 (by kernel_rfl)).symm.trans h0_) (by decide), fun h0_ => absurd ((hoff 17 (by kernel_rfl)).symm.trans h0_) (by decide)⟩
    refine steps_cons ?_ ?_
    ·rintro b a w' ⟨v168, v171, v174, v177, v180, v183, v186, m17_, ha, Q_BK166, Q_HB, Q_HO169, Q_HO172, Q_HO175, Q_HO178, Q_HO181, Q_HO184, Q_HO187, Q_X17_⟩ hb_ hon hoff
     refine ⟨_, rfl, fun K hK => ?_⟩
     have e12 : a.tmps[12]? = some (.pointer (some ⟨gb166, 1, none⟩)) := by rw [ha]; exact (putSel_off rfl).trans rfl
     replace ha := Aside0.mk ha
     have BK166 := Aside0.mk Q_BK166
     have HB := Aside0.mk Q_HB
     have hc0_ : w'.cell? ⟨gb166, 0, none⟩ = some (.int .i64 a2_0) := (blk_cell BK166.out 0).trans rfl
     have hc1_ : w'.cell? ⟨gb166, 1, none⟩ = some (.int .i64 a2_1) := (blk_cell BK166.out 1).trans rfl
     have hc2_ : w'.cell? ⟨gb166, 2, none⟩ = some (.string a2_2) := (blk_cell BK166.out 2).trans rfl
     refine value_ (w1 := w') (v := .int .i64 a2_1) (by rfl) rfl ?_ ?_
     ·go_simp
      (try simp only [i64_w])
      try rfl
     refine hK.out _ _ ⟨v168, v171, v174, v177, v180, v183, v186, m17_, (by rw [ha.out]; exact putSel_upk 2 hb_ rfl rfl rfl), Q_BK166, Q_HB, Q_HO169, fun h0_ _ => absurd ((hoff 5 (by kernel_rfl)).symm.trans h0_) (by decide), fun h0_ _ => absurd ((hoff 10 (by kernel_rfl)).symm.trans h0_) (by decide), Q_HO178, Q_HO181, fun h0_ => absurd ((hoff 15 (by kernel_rfl)).symm.trans h0_) (by decide), fun h0_ => absurd ((hoff 16 (by kernel_rfl)).symm.trans h0_) (by decide), fun h0_ => absurd ((hoff 17 (by kernel_rfl)).symm.trans h0_) (by decide)⟩
    refine steps_cons ?_ ?_
    ·rintro b a w' ⟨v168, v171, v174, v177, v180, v183, v186, m17_, ha, Q_BK166, Q_HB, Q_HO169, Q_HO172, Q_HO175, Q_HO178, Q_HO181, Q_HO184, Q_HO187, Q_X17_⟩ hb_ hon hoff
     refine ⟨_, rfl, fun K hK => ?_⟩
     have e13 : a.tmps[13]? = some (.int .i64 a2_1) := by rw [ha]; exact putSel_on (e := (4, 13, .int .i64 a2_1)) 2 rfl rfl (hon 4 (by kernel_rfl)) rfl
     replace ha := Aside0.mk ha
     have BK166 := Aside0.mk Q_BK166
     have HB := Aside0.mk Q_HB
     have HO169 := Aside0.mk (Q_HO169 (hon 2 (by kernel_rfl)) (hoff 15 (by kernel_rfl)))
     refine goes_ Try.func62 (by kernel_rfl) rfl #[.int .i64 a2_1, .int .i64 2] (by rfl) rfl rfl (by first | (simp only [List.map_toArray, List.map_cons, List.map_nil, Act.eval, Array.getD_eq_getD_getElem?, Option.getD_some, e13]; done) | (simp only [List.map_toArray, List.map_cons, List.map_nil, Act.eval, Array.getD_eq_getD_getElem?, Option.getD_some, e13]; rfl)) ?_
     with_reducible refine (impl_be.calls k a2_1 2 t170 _ A5.out).mono ?_
     rintro e w16 ⟨v171, rfl, ho0, hb⟩
     refine ⟨_, rfl, ?_⟩
     have n0_ := Aside0.mk (Kd.R_elder' HO169.out (Kd.R_base ho0) hb)
     have n1_ := Aside0.mk (Kd.R_lower (Kd.R_new' ho0 (Kd.R_lt (by (with_reducible repeat (first | apply Kd.R_alloc | apply Kd.R_drewN | apply Kd.R_drew)); exact HO169.out))) (below_size (by repeat (first | (with_reducible first | exact HB.out | apply below_alloc | apply pw_below_drewN | apply below_drew1 | refine below_set ?_ GE166.out) | exact HB.out))))
     have n2_ := Aside0.mk (blk_below (g := gb166) (o := .cells #[.int .i64 a2_0, .int .i64 a2_1, .string a2_2] 60 (0, 0)) BK166.out hb)
     have n3_ := Aside0.mk (below_step HB.out hb)
     have z_HO178 := fun (h0_ : b 11 = true) (h1_ : b 15 = false) => (show Kd.R (Kd.int .u8) 5 w16 w.heap.size (fun _ => True) v177 y176 from Kd.R_mono (Kd.R_elder' (Q_HO178 h0_ h1_) (Kd.R_base ho0) hb) (fun _ h_ => by first | trivial | exact h_ | exact h_.1))
     have z_HO181 := fun (h0_ : b 14 = true) => (show Kd.V (Kd.int .u8) 5 w16 w.heap.size (fun k_ => k_ ≠ gb166) v180 y179 from Kd.V_mono (Kd.V_elder' (Q_HO181 h0_) (Kd.R_base ho0) hb) (fun _ h_ => by first | trivial | exact h_ | exact h_.1))
     clear HO169
     clear BK166
     clear HB
     have HO169 := n0_
     have HO172 := n1_
     have BK166 := n2_
     have HB := n3_
     clear n0_ n1_ n2_ n3_
     (try clear hb)
     (try clear hb2)
     (try clear hk)
     (try clear hi)
     (try clear ho0)
     refine hK.out _ _ ⟨v168, v171, v174, v177, v180, v183, v186, m17_, (by rw [ha.out]; exact putSel_upk 3 hb_ rfl rfl rfl), BK166.out, HB.out, fun _ _ => (by (with_reducible repeat (first | apply Kd.R_alloc | apply Kd.R_drewN | apply Kd.R_drew)); exact Kd.R_mono HO169.out (fun _ hk => by first | trivial | exact hk.2 | exact hk.2 | exact hk.1 | exact hk | exact hk.1.2 | exact hk.1.1 | exact hk.2.1 | exact hk.2.2)), fun _ _ => (by (with_reducible repeat (first | apply Kd.R_alloc | apply Kd.R_drewN | apply Kd.R_drew)); exact Kd.R_mono HO172.out (fun _ hk => by first | trivial | exact hk.2 | exact hk.2 | exact hk.1 | exact hk | exact hk.1.2 | exact hk.1.1 | exact hk.2.1 | exact hk.2.2)), fun h0_ _ => absurd ((hoff 10 (by kernel_rfl)).symm.trans h0_) (by decide), z_HO178, z_HO181, fun h0_ => absurd ((hoff 15 (by kernel_rfl)).symm.trans h0_) (by decide), fun h0_ => absurd ((hoff 16 (by kernel_rfl)).symm.trans h0_) (by decide), fun h0_ => absurd ((hoff 17 (by kernel_rfl)).symm.trans h0_) (by decide)⟩
    refine steps_cons ?_ ?_
    ·rintro b a w' ⟨v168, v171, v174, v177, v180, v183, v186, m17_, ha, Q_BK166, Q_HB, Q_HO169, Q_HO172, Q_HO175, Q_HO178, Q_HO181, Q_HO184, Q_HO187, Q_X17_⟩ hb_ hon hoff
     refine ⟨_, rfl, fun K hK => ?_⟩
     have e15 : a.tmps[15]? = some (.pointer (some ⟨gb166, 2, none⟩)) := by rw [ha]; exact (putSel_off rfl).trans rfl
     replace ha := Aside0.mk ha
     have BK166 := Aside0.mk Q_BK166
     have HB := Aside0.mk Q_HB
     have hc0_ : w'.cell? ⟨gb166, 0, none⟩ = some (.int .i64 a2_0) := (blk_cell BK166.out 0).trans rfl
     have hc1_ : w'.cell? ⟨gb166, 1, none⟩ = some (.int .i64 a2_1) := (blk_cell BK166.out 1).trans rfl
     have hc2_ : w'.cell? ⟨gb166, 2, none⟩ = some (.string a2_2) := (blk_cell BK166.out 2).trans rfl
     refine value_ (w1 := w') (v := .string a2_2) (by rfl) rfl ?_ ?_
     ·go_simp
      (try simp only [i64_w])
      try rfl
     refine hK.out _ _ ⟨v168, v171, v174, v177, v180, v183, v186, m17_, (by rw [ha.out]; exact putSel_upk 4 hb_ rfl rfl rfl), Q_BK166, Q_HB, Q_HO169, Q_HO172, fun h0_ _ => absurd ((hoff 10 (by kernel_rfl)).symm.trans h0_) (by decide), Q_HO178, Q_HO181, fun h0_ => absurd ((hoff 15 (by kernel_rfl)).symm.trans h0_) (by decide), fun h0_ => absurd ((hoff 16 (by kernel_rfl)).symm.trans h0_) (by decide), fun h0_ => absurd ((hoff 17 (by kernel_rfl)).symm.trans h0_) (by decide)⟩
    refine steps_cons ?_ ?_
    ·rintro b a w' ⟨v168, v171, v174, v177, v180, v183, v186, m17_, ha, Q_BK166, Q_HB, Q_HO169, Q_HO172, Q_HO175, Q_HO178, Q_HO181, Q_HO184, Q_HO187, Q_X17_⟩ hb_ hon hoff
     refine ⟨_, rfl, fun K hK => ?_⟩
     have e16 : a.tmps[16]? = some (.string a2_2) := by rw [ha]; exact putSel_on (e := (7, 16, .string a2_2)) 4 rfl rfl (hon 7 (by kernel_rfl)) rfl
     replace ha := Aside0.mk ha
     have BK166 := Aside0.mk Q_BK166
     have HB := Aside0.mk Q_HB
     refine value_ (w1 := w') (v := .int .i64 (a2_2.size : Int)) (by rfl) rfl ?_ ?_
     ·go_simp
      (try simp only [i64_w])
      try rfl
     refine hK.out _ _ ⟨v168, v171, v174, v177, v180, v183, v186, m17_, (by rw [ha.out]; exact putSel_upk 5 hb_ rfl rfl rfl), Q_BK166, Q_HB, Q_HO169, Q_HO172, fun h0_ _ => absurd ((hoff 10 (by kernel_rfl)).symm.trans h0_) (by decide), Q_HO178, Q_HO181, fun h0_ => absurd ((hoff 15 (by kernel_rfl)).symm.trans h0_) (by decide), fun h0_ => absurd ((hoff 16 (by kernel_rfl)).symm.trans h0_) (by decide), fun h0_ => absurd ((hoff 17 (by kernel_rfl)).symm.trans h0_) (by decide)⟩
    refine steps_cons ?_ ?_
    ·rintro b a w' ⟨v168, v171, v174, v177, v180, v183, v186, m17_, ha, Q_BK166, Q_HB, Q_HO169, Q_HO172, Q_HO175, Q_HO178, Q_HO181, Q_HO184, Q_HO187, Q_X17_⟩ hb_ hon hoff
     refine ⟨_, rfl, fun K hK => ?_⟩
     have e17 : a.tmps[17]? = some (.int .i64 (a2_2.size : Int)) := by rw [ha]; exact putSel_on (e := (8, 17, .int .i64 (a2_2.size : Int))) 5 rfl rfl (hon 8 (by kernel_rfl)) rfl
     replace ha := Aside0.mk ha
     have BK166 := Aside0.mk Q_BK166
     have HB := Aside0.mk Q_HB
     refine value_ (w1 := w') (v := .int .i64 (wrap64 (8 + (a2_2.size : Int)))) (by rfl) rfl ?_ ?_
     ·go_simp
      (try simp only [i64_w])
      try rfl
     refine hK.out _ _ ⟨v168, v171, v174, v177, v180, v183, v186, m17_, (by rw [ha.out]; exact putSel_upk 6 hb_ rfl rfl rfl), Q_BK166, Q_HB, Q_HO169, Q_HO172, fun h0_ _ => absurd ((hoff 10 (by kernel_rfl)).symm.trans h0_) (by decide), Q_HO178, Q_HO181, fun h0_ => absurd ((hoff 15 (by kernel_rfl)).symm.trans h0_) (by decide), fun h0_ => absurd ((hoff 16 (by kernel_rfl)).symm.trans h0_) (by decide), fun h0_ => absurd ((hoff 17 (by kernel_rfl)).symm.trans h0_) (by decide)⟩
    refine steps_cons ?_ ?_
    ·rintro b a w' ⟨v168, v171, v174, v177, v180, v183, v186, m17_, ha, Q_BK166, Q_HB, Q_HO169, Q_HO172, Q_HO175, Q_HO178, Q_HO181, Q_HO184, Q_HO187, Q_X17_⟩ hb_ hon hoff
     refine ⟨_, rfl, fun K hK => ?_⟩
     have e18 : a.tmps[18]? = some (.int .i64 (wrap64 (8 + (a2_2.size : Int)))) := by rw [ha]; exact putSel_on (e := (9, 18, .int .i64 (wrap64 (8 + (a2_2.size : Int))))) 6 rfl rfl (hon 9 (by kernel_rfl)) rfl
     replace ha := Aside0.mk ha
     have BK166 := Aside0.mk Q_BK166
     have HB := Aside0.mk Q_HB
     have HO169 := Aside0.mk (Q_HO169 (hon 2 (by kernel_rfl)) (hoff 15 (by kernel_rfl)))
     have HO172 := Aside0.mk (Q_HO172 (hon 5 (by kernel_rfl)) (hoff 15 (by kernel_rfl)))
     refine goes_ Try.func62 (by kernel_rfl) rfl #[.int .i64 (wrap64 (8 + (a2_2.size : Int))), .int .i64 2] (by rfl) rfl rfl (by first | (simp only [List.map_toArray, List.map_cons, List.map_nil, Act.eval, Array.getD_eq_getD_getElem?, Option.getD_some, e18]; done) | (simp only [List.map_toArray, List.map_cons, List.map_nil, Act.eval, Array.getD_eq_getD_getElem?, Option.getD_some, e18]; rfl)) ?_
     with_reducible refine (impl_be.calls k (wrap64 (8 + (a2_2.size : Int))) 2 t173 _ A6.out).mono ?_
     rintro e w17 ⟨v174, rfl, ho0, hb⟩
     refine ⟨_, rfl, ?_⟩
     have n0_ := Aside0.mk (Kd.R_elder' HO169.out (Kd.R_base ho0) hb)
     have n1_ := Aside0.mk (Kd.R_elder' HO172.out (Kd.R_base ho0) hb)
     have n2_ := Aside0.mk (Kd.R_lower (Kd.R_new' (Kd.R_new' ho0 (Kd.R_lt (by (with_reducible repeat (first | apply Kd.R_alloc | apply Kd.R_drewN | apply Kd.R_drew)); exact HO169.out))) (Kd.R_lt (by (with_reducible repeat (first | apply Kd.R_alloc | apply Kd.R_drewN | apply Kd.R_drew)); exact HO172.out))) (below_size (by repeat (first | (with_reducible first | exact HB.out | apply below_alloc | apply pw_below_drewN | apply below_drew1 | refine below_set ?_ GE166.out) | exact HB.out))))
     have n3_ := Aside0.mk (blk_below (g := gb166) (o := .cells #[.int .i64 a2_0, .int .i64 a2_1, .string a2_2] 60 (0, 0)) BK166.out hb)
     have n4_ := Aside0.mk (below_step HB.out hb)
     have z_HO178 := fun (h0_ : b 11 = true) (h1_ : b 15 = false) => (show Kd.R (Kd.int .u8) 5 w17 w.heap.size (fun _ => True) v177 y176 from Kd.R_mono (Kd.R_elder' (Q_HO178 h0_ h1_) (Kd.R_base ho0) hb) (fun _ h_ => by first | trivial | exact h_ | exact h_.1))
     have z_HO181 := fun (h0_ : b 14 = true) => (show Kd.V (Kd.int .u8) 5 w17 w.heap.size (fun k_ => k_ ≠ gb166) v180 y179 from Kd.V_mono (Kd.V_elder' (Q_HO181 h0_) (Kd.R_base ho0) hb) (fun _ h_ => by first | trivial | exact h_ | exact h_.1))
     clear HO169
     clear HO172
     clear BK166
     clear HB
     have HO169 := n0_
     have HO172 := n1_
     have HO175 := n2_
     have BK166 := n3_
     have HB := n4_
     clear n0_ n1_ n2_ n3_ n4_
     (try clear hb)
     (try clear hb2)
     (try clear hk)
     (try clear hi)
     (try clear ho0)
     refine hK.out _ _ ⟨v168, v171, v174, v177, v180, v183, v186, m17_, (by rw [ha.out]; exact putSel_upk 7 hb_ rfl rfl rfl), BK166.out, HB.out, fun _ _ => (by (with_reducible repeat (first | apply Kd.R_alloc | apply Kd.R_drewN | apply Kd.R_drew)); first | exact HO169.out | exact Kd.R_mono HO169.out (fun _ h_ => by first | trivial | exact h_ | exact h_.1)), fun _ _ => (by (with_reducible repeat (first | apply Kd.R_alloc | apply Kd.R_drewN | apply Kd.R_drew)); first | exact HO172.out | exact Kd.R_mono HO172.out (fun _ h_ => by first | trivial | exact h_ | exact h_.1)), fun _ _ => (by (with_reducible repeat (first | apply Kd.R_alloc | apply Kd.R_drewN | apply Kd.R_drew)); exact Kd.R_mono HO175.out (fun _ hk => by first | trivial | exact ⟨hk.1.2, hk.2⟩ | exact hk.2 | exact hk.1 | exact hk | exact hk.1.2 | exact hk.1.1 | exact hk.2.1 | exact hk.2.2)), z_HO178, z_HO181, fun h0_ => absurd ((hoff 15 (by kernel_rfl)).symm.trans h0_) (by decide), fun h0_ => absurd ((hoff 16 (by kernel_rfl)).symm.trans h0_) (by decide), fun h0_ => absurd ((hoff 17 (by kernel_rfl)).symm.trans h0_) (by decide)⟩
    refine steps_cons ?_ ?_
    ·rintro b a w' ⟨v168, v171, v174, v177, v180, v183, v186, m17_, ha, Q_BK166, Q_HB, Q_HO169, Q_HO172, Q_HO175, Q_HO178, Q_HO181, Q_HO184, Q_HO187, Q_X17_⟩ hb_ hon hoff
     refine ⟨_, rfl, fun K hK => ?_⟩
     replace ha := Aside0.mk ha
     have BK166 := Aside0.mk Q_BK166
     have HB := Aside0.mk Q_HB
     refine Kd.R_make_step (Kd.int .u8) _ 5 (by rfl) (N := 20) rfl 22 _ _ rfl 2 rfl rfl Try.underlying22 (.int .u8 0) 1 info5 rfl (by decide) (by omega) 0 (ok := fun _ => True) (okp := fun _ => True) rfl (fun _ hk => hk) trivial (by omega) (by omega) (Below.refl _ _) (Nat.le_refl _) ?_
     intro v177 w14 ho15 hb hg_ hnew_
     clear hg_ hnew_
     (first | rw [← Ny176.out] at ho15 | (simp only [Int.reduceToNat] at ho15; rw [← Ny176.out] at ho15))
     have n0_ := Aside0.mk (Kd.R_lower ho15 (below_size (by repeat (first | (with_reducible first | exact HB.out | apply below_alloc | apply pw_below_drewN | apply below_drew1 | refine below_set ?_ GE166.out) | exact HB.out))))
     have n1_ := Aside0.mk (blk_below (g := gb166) (o := .cells #[.int .i64 a2_0, .int .i64 a2_1, .string a2_2] 60 (0, 0)) BK166.out hb)
     have n2_ := Aside0.mk (below_step HB.out hb)
     have z_HO169 := fun (h0_ : b 2 = true) (h1_ : b 15 = false) => (show Kd.R (Kd.int .u8) 5 w14 w.heap.size (fun _ => True) v168 t167 from Kd.R_mono (Kd.R_elder' (Q_HO169 h0_ h1_) (Kd.R_base ho15) hb) (fun _ h_ => by first | trivial | exact h_ | exact h_.1))
     have z_HO172 := fun (h0_ : b 5 = true) (h1_ : b 15 = false) => (show Kd.R (Kd.int .u8) 5 w14 w.heap.size (fun _ => True) v171 t170 from Kd.R_mono (Kd.R_elder' (Q_HO172 h0_ h1_) (Kd.R_base ho15) hb) (fun _ h_ => by first | trivial | exact h_ | exact h_.1))
     have z_HO175 := fun (h0_ : b 10 = true) (h1_ : b 15 = false) => (show Kd.R (Kd.int .u8) 5 w14 w.heap.size (fun _ => True) v174 t173 from Kd.R_mono (Kd.R_elder' (Q_HO175 h0_ h1_) (Kd.R_base ho15) hb) (fun _ h_ => by first | trivial | exact h_ | exact h_.1))
     have z_HO181 := fun (h0_ : b 14 = true) => (show Kd.V (Kd.int .u8) 5 w14 w.heap.size (fun k_ => k_ ≠ gb166) v180 y179 from Kd.V_mono (Kd.V_elder' (Q_HO181 h0_) (Kd.R_base ho15) hb) (fun _ h_ => by first | trivial | exact h_ | exact h_.1))
     clear BK166
     clear HB
     have HO178 := n0_
     have BK166 := n1_
     have HB := n2_
     clear n0_ n1_ n2_
     clear hb ho15
     refine hK.out _ _ ⟨v168, v171, v174, v177, v180, v183, v186, m17_, (by rw [ha.out]; exact putSel_upk 8 hb_ rfl rfl rfl), BK166.out, HB.out, z_HO169, z_HO172, z_HO175, fun _ _ => (by (with_reducible repeat (first | apply Kd.R_alloc | apply Kd.R_drewN | apply Kd.R_drew)); first | exact HO178.out | exact Kd.R_mono HO178.out (fun _ h_ => by first | trivial | exact h_ | exact h_.1)), z_HO181, fun h0_ => absurd ((hoff 15 (by kernel_rfl)).symm.trans h0_) (by decide), fun h0_ => absurd ((hoff 16 (by kernel_rfl)).symm.trans h0_) (by decide), fun h0_ => absurd ((hoff 17 (by kernel_rfl)).symm.trans h0_) (by decide)⟩
    refine steps_cons ?_ ?_
    ·rintro b a w' ⟨v168, v171, v174, v177, v180, v183, v186, m17_, ha, Q_BK166, Q_HB, Q_HO169, Q_HO172, Q_HO175, Q_HO178, Q_HO181, Q_HO184, Q_HO187, Q_X17_⟩ hb_ hon hoff
     refine ⟨_, rfl, fun K hK => ?_⟩
     have e21 : a.tmps[21]? = some (.pointer (some ⟨gb166, 2, none⟩)) := by rw [ha]; exact (putSel_off rfl).trans rfl
     replace ha := Aside0.mk ha
     have BK166 := Aside0.mk Q_BK166
     have HB := Aside0.mk Q_HB
     have hc0_ : w'.cell? ⟨gb166, 0, none⟩ = some (.int .i64 a2_0) := (blk_cell BK166.out 0).trans rfl
     have hc1_ : w'.cell? ⟨gb166, 1, none⟩ = some (.int .i64 a2_1) := (blk_cell BK166.out 1).trans rfl
     have hc2_ : w'.cell? ⟨gb166, 2, none⟩ = some (.string a2_2) := (blk_cell BK166.out 2).trans rfl
     refine value_ (w1 := w') (v := .string a2_2) (by rfl) rfl ?_ ?_
     ·go_simp
      (try simp only [i64_w])
      try rfl
     refine hK.out _ _ ⟨v168, v171, v174, v177, v180, v183, v186, m17_, (by rw [ha.out]; exact putSel_upk 9 hb_ rfl rfl rfl), Q_BK166, Q_HB, Q_HO169, Q_HO172, Q_HO175, Q_HO178, fun h0_ => absurd ((hoff 14 (by kernel_rfl)).symm.trans h0_) (by decide), fun h0_ => absurd ((hoff 15 (by kernel_rfl)).symm.trans h0_) (by decide), fun h0_ => absurd ((hoff 16 (by kernel_rfl)).symm.trans h0_) (by decide), fun h0_ => absurd ((hoff 17 (by kernel_rfl)).symm.trans h0_) (by decide)⟩
    refine steps_cons ?_ ?_
    ·rintro b a w' ⟨v168, v171, v174, v177, v180, v183, v186, m17_, ha, Q_BK166, Q_HB, Q_HO169, Q_HO172, Q_HO175, Q_HO178, Q_HO181, Q_HO184, Q_HO187, Q_X17_⟩ hb_ hon hoff
     refine ⟨_, rfl, fun K hK => ?_⟩
     have e22 : a.tmps[22]? = some (.string a2_2) := by rw [ha]; exact putSel_on (e := (13, 22, .string a2_2)) 9 rfl rfl (hon 13 (by kernel_rfl)) rfl
     replace ha := Aside0.mk ha
     have BK166 := Aside0.mk Q_BK166
     have HB := Aside0.mk Q_HB
     refine Kd.V_make_step _ 5 (by rfl) (N' := 23) rfl 9 22 _ rfl a2_2 (by first | rfl | exact eval_tmp (by assumption)) Try.underlying9 Try.underlying22 Try.underlying5 (ok := fun k_ => w'.heap.size ≤ k_) (Nat.le_refl _) (of_decide_eq_true (by first | (with_reducible assumption) | assumption) : a2_2.size ≤ 140737488355328) (Below.refl _ _) (Nat.le_refl _) ?_
     intro v180 w14 ho15 hb hg_ hnew_
     clear hg_ hnew_
     (first | rw [← Ny179.out] at ho15 | (simp only [Int.reduceToNat] at ho15; rw [← Ny179.out] at ho15))
     have n0_ := Aside0.mk (Kd.V_lower (Kd.V_mono (ok' := fun k_ => k_ ≠ gb166) ho15 (fun k_ hk_ => (Kd.freshB (g := gb166) (o := .cells #[.int .i64 a2_0, .int .i64 a2_1, .string a2_2] 60 (0, 0)) (by (with_reducible repeat (first | refine blk_drewN ?_ _ | refine blk_drew ?_ | refine blk_alloc ?_ _)); exact BK166.out) k_ hk_))) (below_size (by repeat (first | (with_reducible first | exact HB.out | apply below_alloc | apply pw_below_drewN | apply below_drew1 | refine below_set ?_ GE166.out) | exact HB.out))))
     have n1_ := Aside0.mk (blk_below (g := gb166) (o := .cells #[.int .i64 a2_0, .int .i64 a2_1, .string a2_2] 60 (0, 0)) BK166.out hb)
     have n2_ := Aside0.mk (below_step HB.out hb)
     have z_HO169 := fun (h0_ : b 2 = true) (h1_ : b 15 = false) => (show Kd.R (Kd.int .u8) 5 w14 w.heap.size (fun _ => True) v168 t167 from Kd.R_mono (Kd.R_below (Q_HO169 h0_ h1_) hb) (fun _ h_ => by first | trivial | exact h_ | exact h_.1))
     have z_HO172 := fun (h0_ : b 5 = true) (h1_ : b 15 = false) => (show Kd.R (Kd.int .u8) 5 w14 w.heap.size (fun _ => True) v171 t170 from Kd.R_mono (Kd.R_below (Q_HO172 h0_ h1_) hb) (fun _ h_ => by first | trivial | exact h_ | exact h_.1))
     have z_HO175 := fun (h0_ : b 10 = true) (h1_ : b 15 = false) => (show Kd.R (Kd.int .u8) 5 w14 w.heap.size (fun _ => True) v174 t173 from Kd.R_mono (Kd.R_below (Q_HO175 h0_ h1_) hb) (fun _ h_ => by first | trivial | exact h_ | exact h_.1))
     have z_HO178 := fun (h0_ : b 11 = true) (h1_ : b 15 = false) => (show Kd.R (Kd.int .u8) 5 w14 w.heap.size (fun _ => True) v177 y176 from Kd.R_mono (Kd.R_below (Q_HO178 h0_ h1_) hb) (fun _ h_ => by first | trivial | exact h_ | exact h_.1))
     clear BK166
     clear HB
     have HO181 := n0_
     have BK166 := n1_
     have HB := n2_
     clear n0_ n1_ n2_
     clear hb ho15
     refine hK.out _ _ ⟨v168, v171, v174, v177, v180, v183, v186, m17_, (by rw [ha.out]; exact putSel_upk 10 hb_ rfl rfl rfl), BK166.out, HB.out, z_HO169, z_HO172, z_HO175, z_HO178, fun _ => HO181.out, fun h0_ => absurd ((hoff 15 (by kernel_rfl)).symm.trans h0_) (by decide), fun h0_ => absurd ((hoff 16 (by kernel_rfl)).symm.trans h0_) (by decide), fun h0_ => absurd ((hoff 17 (by kernel_rfl)).symm.trans h0_) (by decide)⟩
    refine steps_cons ?_ ?_
    ·rintro b a w' ⟨v168, v171, v174, v177, v180, v183, v186, m17_, ha, Q_BK166, Q_HB, Q_HO169, Q_HO172, Q_HO175, Q_HO178, Q_HO181, Q_HO184, Q_HO187, Q_X17_⟩ hb_ hon hoff
     refine ⟨_, rfl, fun K hK => ?_⟩
     have e11 : a.tmps[11]? = some (v168) := by rw [ha]; exact putSel_on (e := (2, 11, v168)) 1 rfl rfl (hon 2 (by kernel_rfl)) rfl
     have e14 : a.tmps[14]? = some (v171) := by rw [ha]; exact putSel_on (e := (5, 14, v171)) 3 rfl rfl (hon 5 (by kernel_rfl)) rfl
     have e19 : a.tmps[19]? = some (v174) := by rw [ha]; exact putSel_on (e := (10, 19, v174)) 7 rfl rfl (hon 10 (by kernel_rfl)) rfl
     have e20 : a.tmps[20]? = some (v177) := by rw [ha]; exact putSel_on (e := (11, 20, v177)) 8 rfl rfl (hon 11 (by kernel_rfl)) rfl
     have e23 : a.tmps[23]? = some (v180) := by rw [ha]; exact putSel_on (e := (14, 23, v180)) 10 rfl rfl (hon 14 (by kernel_rfl)) rfl
     replace ha := Aside0.mk ha
     have BK166 := Aside0.mk Q_BK166
     have HB := Aside0.mk Q_HB
     have HO169 := Aside0.mk (Q_HO169 (hon 2 (by kernel_rfl)) hb_)
     have HO172 := Aside0.mk (Q_HO172 (hon 5 (by kernel_rfl)) hb_)
     have HO175 := Aside0.mk (Q_HO175 (hon 10 (by kernel_rfl)) hb_)
     have HO178 := Aside0.mk (Q_HO178 (hon 11 (by kernel_rfl)) hb_)
     have HO181 := Aside0.mk (Q_HO181 (hon 14 (by kernel_rfl)))
     obtain ⟨Ao22, co22, eo22⟩ := Kd.R_slice HO169.out
     (first | subst eo22 | (injection eo22 with f1_ f2_ f3_; have f4_ := f1_.symm; have f5_ := f3_.symm; clear f1_ f2_ f3_; subst f4_; subst f5_))
     obtain ⟨Ao23, co23, eo23⟩ := Kd.R_slice HO172.out
     (first | subst eo23 | (injection eo23 with f1_ f2_ f3_; have f4_ := f1_.symm; have f5_ := f3_.symm; clear f1_ f2_ f3_; subst f4_; subst f5_))
     obtain ⟨Ao24, co24, eo24⟩ := Kd.R_slice HO175.out
     (first | subst eo24 | (injection eo24 with f1_ f2_ f3_; have f4_ := f1_.symm; have f5_ := f3_.symm; clear f1_ f2_ f3_; subst f4_; subst f5_))
     obtain ⟨Ao25, co25, eo25⟩ := Kd.R_slice HO178.out
     (first | subst eo25 | (injection eo25 with f1_ f2_ f3_; have f4_ := f1_.symm; have f5_ := f3_.symm; clear f1_ f2_ f3_; subst f4_; subst f5_))
     obtain ⟨Ao26, co26, eo26⟩ := Kd.V_slice HO181.out
     (first | subst eo26 | (injection eo26 with f1_ f2_ f3_; have f4_ := f1_.symm; have f5_ := f3_.symm; clear f1_ f2_ f3_; subst f4_; subst f5_))
     refine Kd.N_lit_step (Kd.slice 5 (Kd.int .u8)) _ 22 ?hg (N' := 24) ?hd (xs := ([t167, t170, t173, y176, y179] : List (List Int))) (inner := [.slice Ao22 t167.length co22, .slice Ao23 t170.length co23, .slice Ao24 t173.length co24, .slice Ao25 y176.length co25, .slice Ao26 y179.length co26]) (ok := (fun k_ => k_ ≠ gb166)) (okp := (fun k_ => k_ ≠ gb166)) ?hr ?hp (fun _ hk => hk) ((show ∀ k_, w'.heap.size ≤ k_ → (fun k_ => k_ ≠ gb166) k_ from fun k_ hk => Kd.freshB (g := gb166) (o := .cells #[.int .i64 a2_0, .int .i64 a2_1, .string a2_2] 60 (0, 0)) (by (with_reducible repeat (first | refine blk_drewN ?_ _ | refine blk_drew ?_ | refine blk_alloc ?_ _)); exact BK166.out) k_ hk) _ (Nat.le_refl _)) (Below.refl _ _) (Nat.le_refl _) (by simp) ?_; (case hd => rfl); (case hg => rfl); (case hr => first | (go_simp; done) | (go_simp; rfl)); (case hp => exact (Reps.one (show Kd.FK (Kd.slice 5 (Kd.int .u8)) _ _ t167 [.slice Ao22 t167.length co22] from (Kd.FK_slice_mk (Kd.R_reads' (Kd.R_mono (ok' := (fun k_ => k_ ≠ gb166)) (Kd.R_types (HO169.out) BK166.out (by decide)) (fun k_ hk => by first | trivial | exact hk.2 | exact hk.2 | exact hk.1 | exact hk | exact hk.1.2 | exact hk.1.1 | exact hk.2.1 | exact hk.2.2))).2.1 (Kd.R_F (Kd.R_mono (ok' := (fun k_ => k_ ≠ gb166)) (Kd.R_types (HO169.out) BK166.out (by decide)) (fun k_ hk => by first | trivial | exact hk.2 | exact hk.2 | exact hk.1 | exact hk | exact hk.1.2 | exact hk.1.1 | exact hk.2.1 | exact hk.2.2))))) (Reps.one (show Kd.FK (Kd.slice 5 (Kd.int .u8)) _ _ t170 [.slice Ao23 t170.length co23] from (Kd.FK_slice_mk (Kd.R_reads' (Kd.R_mono (ok' := (fun k_ => k_ ≠ gb166)) (Kd.R_types (HO172.out) BK166.out (by decide)) (fun k_ hk => by first | trivial | exact hk.2 | exact hk.2 | exact hk.1 | exact hk | exact hk.1.2 | exact hk.1.1 | exact hk.2.1 | exact hk.2.2))).2.1 (Kd.R_F (Kd.R_mono (ok' := (fun k_ => k_ ≠ gb166)) (Kd.R_types (HO172.out) BK166.out (by decide)) (fun k_ hk => by first | trivial | exact hk.2 | exact hk.2 | exact hk.1 | exact hk | exact hk.1.2 | exact hk.1.1 | exact hk.2.1 | exact hk.2.2))))) (Reps.one (show Kd.FK (Kd.slice 5 (Kd.int .u8)) _ _ t173 [.slice Ao24 t173.length co24] from (Kd.FK_slice_mk (Kd.R_reads' (Kd.R_mono (ok' := (fun k_ => k_ ≠ gb166)) (Kd.R_types (HO175.out) BK166.out (by decide)) (fun k_ hk => by first | trivial | exact hk.2 | exact hk.2 | exact hk.1 | exact hk | exact hk.1.2 | exact hk.1.1 | exact hk.2.1 | exact hk.2.2))).2.1 (Kd.R_F (Kd.R_mono (ok' := (fun k_ => k_ ≠ gb166)) (Kd.R_types (HO175.out) BK166.out (by decide)) (fun k_ hk => by first | trivial | exact hk.2 | exact hk.2 | exact hk.1 | exact hk | exact hk.1.2 | exact hk.1.1 | exact hk.2.1 | exact hk.2.2))))) (Reps.one (show Kd.FK (Kd.slice 5 (Kd.int .u8)) _ _ y176 [.slice Ao25 y176.length co25] from (Kd.FK_slice_mk (Kd.R_reads' (Kd.R_mono (ok' := (fun k_ => k_ ≠ gb166)) (Kd.R_types (HO178.out) BK166.out (by decide)) (fun k_ hk => by first | trivial | exact hk.2 | exact hk.2 | exact hk.1 | exact hk | exact hk.1.2 | exact hk.1.1 | exact hk.2.1 | exact hk.2.2))).2.1 (Kd.R_F (Kd.R_mono (ok' := (fun k_ => k_ ≠ gb166)) (Kd.R_types (HO178.out) BK166.out (by decide)) (fun k_ hk => by first | trivial | exact hk.2 | exact hk.2 | exact hk.1 | exact hk | exact hk.1.2 | exact hk.1.1 | exact hk.2.1 | exact hk.2.2))))) (Reps.one (show Kd.FK (Kd.slice 5 (Kd.int .u8)) _ _ y179 [.slice Ao26 y179.length co26] from (Kd.FK_slice_mk (Kd.V_reads' (Kd.V_mono (ok' := (fun k_ => k_ ≠ gb166)) (HO181.out) (fun k_ hk => by first | trivial | exact hk.2.2.2.2 | exact hk | exact hk.2 | exact hk.1 | exact hk.1.2 | exact hk.1.1 | exact hk.2.1 | exact hk.2.2))).2.1 (Kd.V_F (Kd.V_mono (ok' := (fun k_ => k_ ≠ gb166)) (HO181.out) (fun k_ hk => by first | trivial | exact hk.2.2.2.2 | exact hk | exact hk.2 | exact hk.1 | exact hk.1.2 | exact hk.1.1 | exact hk.2.1 | exact hk.2.2))))) (Reps.none _ _)))))))
     intro v183 w27 ho28 hb hg_ hnew_
     clear hg_ hnew_
     (first | rw [← Ny182.out] at ho28 | (simp only [Int.reduceToNat] at ho28; rw [← Ny182.out] at ho28))
     have n0_ := Aside0.mk (Kd.V_elder' HO181.out (Kd.N_base ho28) hb)
     have n1_ := Aside0.mk (Kd.N_lower ho28 (below_size (by repeat (first | (with_reducible first | exact HB.out | apply below_alloc | apply pw_below_drewN | apply below_drew1 | refine below_set ?_ GE166.out) | exact HB.out))))
     have n2_ := Aside0.mk (blk_below (g := gb166) (o := .cells #[.int .i64 a2_0, .int .i64 a2_1, .string a2_2] 60 (0, 0)) BK166.out hb)
     have n3_ := Aside0.mk (below_step HB.out hb)
     clear HO181
     clear BK166
     clear HB
     clear HO169
     clear HO172
     clear HO175
     clear HO178
     have HO181 := n0_
     have HO184 := n1_
     have BK166 := n2_
     have HB := n3_
     clear n0_ n1_ n2_ n3_
     clear hb ho28
     refine hK.out _ _ ⟨.slice Ao22 t167.length co22, .slice Ao23 t170.length co23, .slice Ao24 t173.length co24, .slice Ao25 y176.length co25, .slice Ao26 y179.length co26, v183, v186, m17_, (by rw [ha.out]; exact putSel_upk 11 hb_ rfl rfl rfl), BK166.out, HB.out, fun _ h1_ => absurd ((up_self b 15).symm.trans h1_) (by decide), fun _ h1_ => absurd ((up_self b 15).symm.trans h1_) (by decide), fun _ h1_ => absurd ((up_self b 15).symm.trans h1_) (by decide), fun _ h1_ => absurd ((up_self b 15).symm.trans h1_) (by decide), fun _ => (by (with_reducible repeat (first | apply Kd.V_alloc | apply Kd.V_drewN | apply Kd.V_drew)); exact Kd.V_mono HO181.out (fun _ hk => by first | trivial | exact ⟨hk.2, hk.1.2.2.2.2⟩ | exact hk.2 | exact hk.1 | exact hk | exact hk.1.2 | exact hk.1.1 | exact hk.2.1 | exact hk.2.2)), fun _ => HO184.out, fun h0_ => absurd ((hoff 16 (by kernel_rfl)).symm.trans h0_) (by decide), fun h0_ => absurd ((hoff 17 (by kernel_rfl)).symm.trans h0_) (by decide)⟩
    refine steps_cons ?_ ?_
    ·rintro b a w' ⟨v168, v171, v174, v177, v180, v183, v186, m17_, ha, Q_BK166, Q_HB, Q_HO169, Q_HO172, Q_HO175, Q_HO178, Q_HO181, Q_HO184, Q_HO187, Q_X17_⟩ hb_ hon hoff
     refine ⟨_, rfl, fun K hK => ?_⟩
     have e24 : a.tmps[24]? = some (v183) := by rw [ha]; exact putSel_on (e := (15, 24, v183)) 11 rfl rfl (hon 15 (by kernel_rfl)) rfl
     replace ha := Aside0.mk ha
     have BK166 := Aside0.mk Q_BK166
     have HB := Aside0.mk Q_HB
     have HO181 := Aside0.mk (Q_HO181 (hon 14 (by kernel_rfl)))
     have HO184 := Aside0.mk (Q_HO184 (hon 15 (by kernel_rfl)))
     obtain ⟨Ao29, co29, eo29⟩ := Kd.N_slice HO184.out
     (first | subst eo29 | (injection eo29 with f1_ f2_ f3_; have f4_ := f1_.symm; have f5_ := f3_.symm; clear f1_ f2_ f3_; subst f4_; subst f5_))
     refine goes_ Try.func74 (by kernel_rfl) rfl #[.slice Ao29 y182.length co29] (by rfl) rfl rfl (by first | (simp only [List.map_toArray, List.map_cons, List.map_nil, Act.eval, Array.getD_eq_getD_getElem?, Option.getD_some, e24]; done) | (simp only [List.map_toArray, List.map_cons, List.map_nil, Act.eval, Array.getD_eq_getD_getElem?, Option.getD_some, e24]; rfl)) ?_
     with_reducible refine (slices_Concat_byte_byte.calls k _ _ y182 t185 _ ?side1 ?side2 A9.out).mono ?_
     (case side1 => repeat (first | exact (Kd.N_reads' HO184.out).2.2 | (with_reducible refine Kd.C_alloc ?_ _) | (with_reducible refine Kd.C_drewN ?_ _) | (with_reducible refine Kd.C_drew ?_)))
     (case side2 => exact (Kd.N_reads' HO184.out).2.1)
     rintro e w30 ⟨v186, rfl, ho0, hb⟩
     refine ⟨_, rfl, ?_⟩
     have n0_ := Aside0.mk (Kd.V_elder' HO181.out (Kd.R_base ho0) hb)
     have n1_ := Aside0.mk (Kd.N_elder' HO184.out (Kd.R_base ho0) hb)
     have n2_ := Aside0.mk (Kd.R_lower ho0 (below_size (by repeat (first | (with_reducible first | exact HB.out | apply below_alloc | apply pw_below_drewN | apply below_drew1 | refine below_set ?_ GE166.out) | exact HB.out))))
     have n3_ := Aside0.mk (blk_below (g := gb166) (o := .cells #[.int .i64 a2_0, .int .i64 a2_1, .string a2_2] 60 (0, 0)) BK166.out hb)
     have n4_ := Aside0.mk (below_step HB.out hb)
     clear HO181
     clear HO184
     clear BK166
     clear HB
     have HO181 := n0_
     have HO184 := n1_
     have HO187 := n2_
     have BK166 := n3_
     have HB := n4_
     clear n0_ n1_ n2_ n3_ n4_
     (try clear hb)
     (try clear hb2)
     (try clear hk)
     (try clear hi)
     (try clear ho0)
     refine hK.out _ _ ⟨v168, v171, v174, v177, v180, .slice Ao29 y182.length co29, v186, m17_, (by rw [ha.out]; exact putSel_upk 12 hb_ rfl rfl rfl), BK166.out, HB.out, fun _ h1_ => absurd ((hon 15 (by kernel_rfl)).symm.trans h1_) (by decide), fun _ h1_ => absurd ((hon 15 (by kernel_rfl)).symm.trans h1_) (by decide), fun _ h1_ => absurd ((hon 15 (by kernel_rfl)).symm.trans h1_) (by decide), fun _ h1_ => absurd ((hon 15 (by kernel_rfl)).symm.trans h1_) (by decide), fun _ => (by (with_reducible repeat (first | apply Kd.V_alloc | apply Kd.V_drewN | apply Kd.V_drew)); exact Kd.V_mono HO181.out (fun _ hk => by first | trivial | exact ⟨hk.1.1, ⟨hk.2, hk.1.2⟩⟩ | exact hk.2 | exact hk.1 | exact hk | exact hk.1.2 | exact hk.1.1 | exact hk.2.1 | exact hk.2.2)), fun _ => (by (with_reducible repeat (first | apply Kd.N_alloc | apply Kd.N_drewN | apply Kd.N_drew)); exact Kd.N_mono HO184.out (fun _ hk => by first | trivial | exact ⟨hk.2, hk.1⟩ | exact hk.2 | exact hk.1 | exact hk | exact hk.1.2 | exact hk.1.1 | exact hk.2.1 | exact hk.2.2)), fun _ => (by (with_reducible repeat (first | apply Kd.R_alloc | apply Kd.R_drewN | apply Kd.R_drew)); first | exact HO187.out | exact Kd.R_mono HO187.out (fun _ h_ => by first | trivial | exact h_ | exact h_.1)), fun h0_ => absurd ((hoff 17 (by kernel_rfl)).symm.trans h0_) (by decide)⟩
    refine steps_cons ?_ ?_
    ·rintro b a w' ⟨v168, v171, v174, v177, v180, v183, v186, m17_, ha, Q_BK166, Q_HB, Q_HO169, Q_HO172, Q_HO175, Q_HO178, Q_HO181, Q_HO184, Q_HO187, Q_X17_⟩ hb_ hon hoff
     refine ⟨_, rfl, fun K hK => ?_⟩
     have e25 : a.tmps[25]? = some (v186) := by rw [ha]; exact putSel_on (e := (16, 25, v186)) 12 rfl rfl (hon 16 (by kernel_rfl)) rfl
     replace ha := Aside0.mk ha
     have BK166 := Aside0.mk Q_BK166
     have HB := Aside0.mk Q_HB
     have HO181 := Aside0.mk (Q_HO181 (hon 14 (by kernel_rfl)))
     have HO184 := Aside0.mk (Q_HO184 (hon 15 (by kernel_rfl)))
     have HO187 := Aside0.mk (Q_HO187 (hon 16 (by kernel_rfl)))
     refine value_ (w1 := w') (v := v186) (by rfl) rfl ?_ ?_
     ·go_simp
      (try simp only [i64_w])
      try rfl
     refine hK.out _ _ ⟨v168, v171, v174, v177, v180, v183, v186, (v186), (by rw [ha.out]; exact putSel_upk 13 hb_ rfl rfl rfl), Q_BK166, Q_HB, fun _ h1_ => absurd ((hon 15 (by kernel_rfl)).symm.trans h1_) (by decide), fun _ h1_ => absurd ((hon 15 (by kernel_rfl)).symm.trans h1_) (by decide), fun _ h1_ => absurd ((hon 15 (by kernel_rfl)).symm.trans h1_) (by decide), fun _ h1_ => absurd ((hon 15 (by kernel_rfl)).symm.trans h1_) (by decide), Q_HO181, Q_HO184, Q_HO187, fun _ => rfl⟩
    exact steps_nil
   rintro b a w30 hall ⟨v168, v171, v174, v177, v180, v183, v186, m17_, ha, Q_BK166, Q_HB, Q_HO169, Q_HO172, Q_HO175, Q_HO178, Q_HO181, Q_HO184, Q_HO187, Q_X17_⟩
   clear BK166 HB
   have hb1_ := hall 1 (by kernel_rfl)
   have hb2_ := hall 2 (by kernel_rfl)
   have hb4_ := hall 4 (by kernel_rfl)
   have hb5_ := hall 5 (by kernel_rfl)
   have hb7_ := hall 7 (by kernel_rfl)
   have hb8_ := hall 8 (by kernel_rfl)
   have hb9_ := hall 9 (by kernel_rfl)
   have hb10_ := hall 10 (by kernel_rfl)
   have hb11_ := hall 11 (by kernel_rfl)
   have hb13_ := hall 13 (by kernel_rfl)
   have hb14_ := hall 14 (by kernel_rfl)
   have hb15_ := hall 15 (by kernel_rfl)
   have hb16_ := hall 16 (by kernel_rfl)
   have hb17_ := hall 17 (by kernel_rfl)
   subst ha
   obtain rfl := Q_X17_ hb17_
   simp only [putSel, hb1_, hb2_, hb4_, hb5_, hb7_, hb8_, hb9_, hb10_, hb11_, hb13_, hb14_, hb15_, hb16_, hb17_, if_true, Act.put, List.setIfInBounds_toArray, List.set_cons_zero, List.set_cons_succ]
   have BK166 := Aside0.mk Q_BK166
   clear Q_BK166
   have HB := Aside0.mk Q_HB
   clear Q_HB
   clear Q_HO169
   clear Q_HO172
   clear Q_HO175
   clear Q_HO178
   have HO181 := Aside0.mk (Q_HO181 hb14_)
   clear Q_HO181
   have HO184 := Aside0.mk (Q_HO184 hb15_)
   clear Q_HO184
   have HO187 := Aside0.mk (Q_HO187 hb16_)
   clear Q_HO187
   clear hall hb1_ hb2_ hb4_ hb5_ hb7_ hb8_ hb9_ hb10_ hb11_ hb13_ hb14_ hb15_ hb16_ hb17_
   obtain ⟨Ao31, co31, eo31⟩ := Kd.R_slice HO187.out
   subst eo31
   go_upto_if 31 with (first | ((with_reducible refine gate_callee (f := 104) rfl ?_); refine goesL_ (some 29) rfl rfl Try.func104 (by kernel_rfl) rfl #[.int .i64 a0, .int .i64 a1, .int .i64 17, .slice Ao31 t185.length co31] rfl (by (try simp only [List.map_toArray, List.map_cons, List.map_nil]); first | done | rfl | (simp only [List.length_drop, List.length_take]; rfl)) ?_; (with_reducible refine (impl_withEnds.calls k a0 a1 17 (fun k_ => some k_ = (.slice Ao31 t185.length co31 : Value).ownBlock) _ _ t185 t188 _ ?side1 A10.out).mono ?_); (case side1 => exact Kd.R_V (Kd.R_tight rfl (Kd.R_types (Kd.R_apart' (HO187.out) (Kd.N_typed HO184.out) (by decide)) BK166.out (by decide)))); rintro e w32 ⟨rfl, hb⟩; refine ⟨_, rfl, ?_⟩; have n0_ := Aside0.mk (Kd.V_below (by (with_reducible repeat (first | apply Kd.V_alloc | apply Kd.V_drewN | apply Kd.V_drew)); exact HO181.out) hb); have n1_ := Aside0.mk (Kd.N_below (by (with_reducible repeat (first | apply Kd.N_alloc | apply Kd.N_drewN | apply Kd.N_drew)); exact HO184.out) hb); have n2_ := Aside0.mk (Kd.R_below (by (with_reducible repeat (first | apply Kd.R_alloc | apply Kd.R_drewN | apply Kd.R_drew)); exact HO187.out) hb); have n3_ := Aside0.mk (blk_below (g := gb166) (o := .cells #[.int .i64 a2_0, .int .i64 a2_1, .string a2_2] 60 (0, 0)) (by (with_reducible repeat (first | refine blk_drewN ?_ _ | refine blk_drew ?_ | refine blk_alloc ?_ _)); exact BK166.out) hb); have n4_ := Aside0.mk (below_step (by repeat (first | (with_reducible first | exact HB.out | apply below_alloc | apply pw_below_drewN | apply below_drew1 | refine below_set ?_ GE166.out) | exact HB.out)) hb); clear HO181; clear HO184; clear HO187; clear BK166; clear HB; have HO181 := n0_; have HO184 := n1_; have HO187 := n2_; have BK166 := n3_; have HB := n4_; clear n0_ n1_ n2_ n3_ n4_; (try clear hb); (try clear hb2); (try clear hk); (try clear hi)))
   (try simp only [Act.put, List.setIfInBounds_toArray, List.set_cons_zero, List.set_cons_succ])
   go_cut [8] (fun v8 wc => ∃ (kq : Nat) (x8_10 : Int), v8 = .int .i64 x8_10 ∧ Aside0 (impl_datagramBytes.j0 kq t185 x8_10 = some r) ∧ Aside0 (kq ≤ k) ∧ Aside0 (Kd.R (Kd.int .u8) 5 wc w.heap.size (fun _ => True) (.slice Ao31 t185.length co31) t185) ∧ Aside0 (wc.heap[gb166]? = some (.cells #[.int .i64 a2_0, .int .i64 a2_1, .string a2_2] 60 (0, 0))) ∧ Aside0 (Below w.heap.size w wc))
   case first =>
    have H := HC11.out
    clear HC11
    by_cases c33 : t188 = 0
    ·rw [if_pos c33] at H
     have c33b0 : (t188 == 0) = true := beq_iff_eq.mpr c33
     have c33b1 : (t188 != 0) = false := bne_eq_false_iff_eq.mpr c33
     clear c33
     (first | rw [c33b0] | (simp only [i64_w, i32_w]; rw [c33b0]) | skip)
     have H' := Aside0.mk H
     clear H
     go_wp2
     go_meet
     case rel => exact ⟨_, (65535), (by first | rfl | (simp; done) | (simp [*]; done)), H', ⟨by first | omega | exact Nat.le_refl _⟩, ⟨by (with_reducible repeat (first | apply Kd.R_alloc | apply Kd.R_drewN | apply Kd.R_drew)); exact HO187.out⟩, ⟨by (with_reducible repeat (first | refine blk_drewN ?_ _ | refine blk_drew ?_ | refine blk_alloc ?_ _)); exact BK166.out⟩, ⟨by repeat (first | (with_reducible first | exact HB.out | apply below_alloc | apply pw_below_drewN | apply below_drew1 | refine below_set ?_ GE166.out) | exact HB.out)⟩⟩
    ·rw [if_neg c33] at H
     have c33b0 : (t188 == 0) = false := beq_eq_false_iff_ne.mpr c33
     have c33b1 : (t188 != 0) = true := bne_iff_ne.mpr c33
     (first | rw [c33b0] | (simp only [i64_w, i32_w]; rw [c33b0]) | skip)
     have H' := Aside0.mk H
     clear H
     go_wp2
     go_meet
     case rel => exact ⟨_, (t188), (by first | rfl | (simp; done) | (simp [*]; done)), H', ⟨by first | omega | exact Nat.le_refl _⟩, ⟨by (with_reducible repeat (first | apply Kd.R_alloc | apply Kd.R_drewN | apply Kd.R_drew)); exact HO187.out⟩, ⟨by (with_reducible repeat (first | refine blk_drewN ?_ _ | refine blk_drew ?_ | refine blk_alloc ?_ _)); exact BK166.out⟩, ⟨by repeat (first | (with_reducible first | exact HB.out | apply below_alloc | apply pw_below_drewN | apply below_drew1 | refine below_set ?_ GE166.out) | exact HB.out)⟩⟩
   case rest =>
    clear HC11
    (try clear c1); (try clear c2); (try clear p2); (try clear c3); (try clear c6); (try clear p6); (try clear c7); (try clear c7b0); (try clear c7b1); (try clear c8); (try clear c8b0); (try clear c8b1); (try clear c10); (try clear c33); (try clear c33b0); (try clear c33b1)
    obtain ⟨kq, x8_10, rfl, HA, HJ10, HO_7, BK166, HB⟩ := hcut
    cases kq with
    | zero => exact absurd HA.out (by simp [impl_datagramBytes.j0])
    | succ kj10 =>
     have H := HA.out
     clear HA
     simp only [impl_datagramBytes.j0] at H
     by_cases c34 : 6 ≤ (t185.length : Int)
     ·rw [if_pos c34] at H
      have c34b0 := eq_true c34
      have c34b1 : decide (6 ≤ (t185.length : Int)) = true := decide_eq_true c34
      clear c34
      obtain ⟨y189, hy189⟩ : ∃ y_ : List Int, y_ = (t185.drop 6) := ⟨_, rfl⟩
      replace H : ((impl_be.f kj10 x8_10 2).bind fun t194 => (if (6 : Int).toNat + t194.length ≤ t185.length then (some (t185.take (6 : Int).toNat ++ t194 ++ t185.drop ((6 : Int).toNat + t194.length))) else (none))) = some r := by first | (rw [hy189]; with_reducible exact H) | (have H2_ := (Option.bind_some _ _).symm.trans H; rw [hy189]; with_reducible exact H2_) | (have H2_ := (Option.bind_some _ _).symm.trans H; with_reducible exact H2_) | with_reducible exact H | (rw [hy189]; exact H) | exact H
      have Ny189 := Aside0.mk hy189
      clear hy189
      replace H := Option.bind_eq_some_iff.mp H
      obtain ⟨t194, A350, H⟩ := H
      replace H : (if (6 : Int).toNat + t194.length ≤ t185.length then (some (t185.take (6 : Int).toNat ++ t194 ++ t185.drop ((6 : Int).toNat + t194.length))) else (none)) = some r := H
      have A35 := Aside0.mk A350
      clear A350
      by_cases c36 : (6 : Int).toNat + t194.length ≤ t185.length
      ·rw [if_pos c36] at H
       have LMc36 := Aside0.mk c36
       clear c36
       obtain ⟨y197, hy197⟩ : ∃ y_ : List Int, y_ = (t185.take (6 : Int).toNat ++ t194 ++ t185.drop ((6 : Int).toNat + t194.length)) := ⟨_, rfl⟩
       replace H : (some y197) = some r := by first | (rw [hy197]; with_reducible exact H) | (have H2_ := (Option.bind_some _ _).symm.trans H; rw [hy197]; with_reducible exact H2_) | (have H2_ := (Option.bind_some _ _).symm.trans H; with_reducible exact H2_) | with_reducible exact H | (rw [hy197]; exact H) | exact H
       have Ny197 := Aside0.mk hy197
       clear hy197
       obtain rfl := Option.some.inj H
       try go_wp2
       have n0_ := Aside0.mk (Kd.R_drew HO_7.out)
       have n1_ := Aside0.mk (blk_drew BK166.out)
       have n2_ := Aside0.mk (below_drew1 HB.out)
       clear HO_7
       clear BK166
       clear HB
       have HO_7 := n0_
       have BK166 := n1_
       have HB := n2_
       clear n0_ n1_ n2_
       obtain ⟨go39, co39, eo39, gb39, gl39, cl39, HG39⟩ := Kd.R_form HO_7.out (by have hl_ : (6 : Int) ≤ ((t185.length : Int) : Int) := of_decide_eq_true (by first | (with_reducible assumption) | assumption); omega)
       (first | cases eo39 | (injection eo39 with ea_ en_ ec_; (first | subst ea_ | (injection ea_ with ea_; subst ea_)); subst ec_; clear en_))
       have GB39 := Aside0.mk gb39
       have GG39 := Aside0.mk HG39
       clear gb39 gl39 HG39
       have q38 : (6 : Int) ≤ ((t185.length : Int) : Int) := of_decide_eq_true (by first | (with_reducible assumption) | assumption)
       obtain ⟨i038, hi038, _, hsz38, _⟩ := info_parts info5
       have hroom38 : t185.length ≤ co31 := (Kd.R_reads' HO_7.out).2.1
       have hC38 : Kd.F (Kd.int .u8) _ _ (some ⟨go39, 0, none⟩) t185.length t185 := (Kd.V_at (base := w.heap.size) (Kd.R_V (Kd.R_types (HO_7.out) BK166.out (by decide)))).2.2
       have hcut38 := cut_from (P := Try.prog) 22 5 .i64 Try.underlying22 hi038 1 hsz38 (some ⟨go39, 0, none⟩) t185.length co31 6 (by omega) q38
       have hr38 := Kd.F_cut (m := (6 : Int).toNat) (c := co31) hC38 (by omega) hroom38
       obtain ⟨A38, hA38⟩ : ∃ A1, A1 = (if co31 = (6 : Int).toNat then (some ⟨go39, 0, none⟩) else ((some ⟨go39, 0, none⟩) : Option Addr).map (·.add ((6 : Int).toNat * 1))) := ⟨_, rfl⟩
       obtain ⟨c38, hc38⟩ : ∃ c1, c1 = co31 - (6 : Int).toNat := ⟨_, rfl⟩
       have hy38 : y189.length = t185.length - (6 : Int).toNat := (by rw [Ny189.out, List.length_drop] <;> omega)
       rw [show (t185).drop (6 : Int).toNat = y189 from Ny189.out.symm] at hr38
       replace hr38 : Kd.F (Kd.int .u8) _ _ A38 y189.length y189 := (by rw [hA38]; exact hr38)
       rw [← hy38, ← hA38, ← hc38] at hcut38
       have HO193 := Aside0.mk (show Kd.V (Kd.int .u8) 5 _ w.heap.size _ (.slice A38 y189.length c38) y189 from Kd.V_mk (by rw [hy38, hc38]; exact Nat.sub_le_sub_right hroom38 _) hr38)
       have HC193 := Aside0.mk (show y189.length ≤ c38 from by rw [hy38, hc38]; exact Nat.sub_le_sub_right hroom38 _)
       clear hr38 hC38 hroom38 hi038 hsz38 hc38
       have KY38 := Aside0.mk hy38
       have KA38 := Aside0.mk hA38
       clear hy38 hA38
       replace q38 := eq_true q38
       refine start_ (n := 5) (S := fun w' => True) (ds := []) #[false, false, false, false, false] (by kernel_rfl) rfl rfl trivial (fun hHeld => ?_)
       generalize wc.drew = w37 at HO_7 BK166 HB GG39 HO193 hHeld ⊢
       refine pure_ (i := 0) (N := some 32) (v := ?_) (a' := ?_) #[true, false, false, false, false] rfl rfl (by kernel_rfl) (fun _ _ _ h => h) (Or.inl ⟨by rfl, ?_⟩) ?_ ?_
       rotate_left
       ·intro w'
        go_simp
        with_reducible rfl
       rotate_left
       ·simp only [Act.put, List.setIfInBounds_toArray, List.set_cons_zero, List.set_cons_succ, i64_w, i32_w]
        rfl
       refine pure_ (i := 1) (N := some 33) (v := ?_) (a' := ?_) #[true, true, false, false, false] rfl rfl (by kernel_rfl) (fun _ _ _ h => h) (Or.inl ⟨by rfl, ?_⟩) ?_ ?_
       rotate_left
       ·intro w'
        go_simp
        with_reducible rfl
       rotate_left
       ·simp only [Act.put, List.setIfInBounds_toArray, List.set_cons_zero, List.set_cons_succ, i64_w, i32_w]
        rfl
       refine pure_ (i := 2) (N := some 34) (v := ?_) (a' := ?_) #[true, true, true, false, false] rfl rfl (by kernel_rfl) (fun _ _ _ h => h) (Or.inl ⟨by rfl, ?_⟩) ?_ ?_
       rotate_left
       ·intro w'
        go_simp
        with_reducible rfl
       rotate_left
       ·simp only [Act.put, List.setIfInBounds_toArray, List.set_cons_zero, List.set_cons_succ, i64_w, i32_w]
        rfl
       refine one_ (i := 3) (N := some 35) #[true, true, true, true, false] rfl rfl (by kernel_rfl) (by decide) (fun K hK => ?_)
       refine goes_ Try.func62 (by kernel_rfl) rfl #[.int .i64 x8_10, .int .i64 2] (by rfl) rfl rfl (by (try simp only [List.map_toArray, List.map_cons, List.map_nil]); first | done | rfl | (simp only [List.length_drop, List.length_take]; rfl)) ?_
       with_reducible refine (impl_be.calls kj10 x8_10 2 t194 _ A35.out).mono ?_
       rintro e w40 ⟨v195, rfl, ho0, hb⟩
       refine ⟨_, rfl, ?_⟩
       have n0_ := Aside0.mk (Kd.R_elder' HO_7.out (Kd.R_base ho0) hb)
       have n1_ := Aside0.mk (Kd.V_elder' HO193.out (Kd.R_base ho0) hb)
       have n2_ := Aside0.mk (Kd.R_lower (Kd.R_new' ho0 (Kd.R_lt (by (with_reducible repeat (first | apply Kd.R_alloc | apply Kd.R_drewN | apply Kd.R_drew)); exact HO_7.out))) (below_size (by repeat (first | (with_reducible first | exact HB.out | apply below_alloc | apply pw_below_drewN | apply below_drew1 | refine below_set ?_ GE166.out) | exact HB.out))))
       have n3_ := Aside0.mk (blk_below (g := gb166) (o := .cells #[.int .i64 a2_0, .int .i64 a2_1, .string a2_2] 60 (0, 0)) BK166.out hb)
       have n4_ := Aside0.mk (below_step HB.out hb)
       clear HO_7
       clear HO193
       clear BK166
       clear HB
       have HO_7 := n0_
       have HO193 := n1_
       have HO196 := n2_
       have BK166 := n3_
       have HB := n4_
       clear n0_ n1_ n2_ n3_ n4_
       (try clear hb)
       (try clear hb2)
       (try clear hk)
       (try clear hi)
       (try clear ho0)
       obtain ⟨Ao43, co43, eo43⟩ := Kd.R_slice HO196.out
       (first | subst eo43 | (injection eo43 with f1_ f2_ f3_; have f4_ := f1_.symm; have f5_ := f3_.symm; clear f1_ f2_ f3_; subst f4_; subst f5_))
       have n_ := Aside0.mk (Kd.R_mono (ok' := (fun k_ => some k_ ≠ (.slice Ao43 t194.length co43 : Value).ownBlock)) HO_7.out (fun k_ hk => by first | trivial | exact hk.2 | exact hk.2 | exact hk.1 | exact hk | exact hk.1.2 | exact hk.1.1 | exact hk.2.1 | exact hk.2.2))
       clear HO_7
       have HO_7 := n_
       clear n_
       refine hK.out _ _ trivial (fun hHeld => ?_)
       clear hK K
       refine norm_ (a' := ?_) ?_ ?_
       rotate_left
       ·show Act.put _ (some 35) _ = _
        simp only [Act.put, List.setIfInBounds_toArray, List.set_cons_zero, List.set_cons_succ, i64_w, i32_w]
        rfl
       refine one_ (i := 4) (N := some 36) #[true, true, true, true, true] rfl rfl (by kernel_rfl) (by decide) (fun K hK => ?_)
       have hl_ := LMc36.out
       have hr_ := (Kd.R_reads' (HO_7.out)).1
       refine Kd.R_copy_step (k0 := .u8) (w0 := w) w.heap.size (by rfl) (.tmp 33) (.tmp 35) 22 22 5 rfl Try.underlying22 (by kernel_rfl) (g := go39) (n := t185.length) (c := co31) (k := (6 : Int).toNat) (m := t194.length) (ys := t194) rfl rfl ?hn ?hA (by (with_reducible repeat (first | apply Kd.R_alloc | apply Kd.R_drewN | apply Kd.R_drew)); exact HO_7.out) (Kd.R_reads' HO196.out).2.2 ?hk (by repeat (first | (with_reducible first | exact HB.out | apply below_alloc | apply pw_below_drewN | apply below_drew1 | refine below_set ?_ GE166.out) | exact HB.out)) (below_size (by repeat (first | (with_reducible first | exact HB.out | apply below_alloc | apply pw_below_drewN | apply below_drew1 | refine below_set ?_ GE166.out) | exact HB.out))) ?_
       (case hn => exact KY38.out)
       (case hA => exact KA38.out)
       (case hk => omega)
       intro w41 ho hb hg
       clear hl_ hr_
       rw [← Ny197.out] at ho
       have n0_ := Aside0.mk (ho)
       have n1_ := Aside0.mk (blk_grown (g := gb166) (o := .cells #[.int .i64 a2_0, .int .i64 a2_1, .string a2_2] 60 (0, 0)) (by (with_reducible repeat (first | refine blk_drewN ?_ _ | refine blk_drew ?_ | refine blk_alloc ?_ _)); exact BK166.out) hg (Kd.R_ne HO_7.out BK166.out (by decide)))
       have n2_ := Aside0.mk (Kd.R_after (v := (.slice (some ⟨go39, 0, none⟩) t185.length co31)) (v1 := .slice (some ⟨go39, 0, none⟩) t185.length co31) (ok := (fun _ => True)) (by (with_reducible repeat (first | apply Kd.R_alloc | apply Kd.R_drewN | apply Kd.R_drew)); exact HO196.out) hg (.inl rfl))
       have n3_ := Aside0.mk (hb)
       clear HO_7
       clear BK166
       clear HO196
       clear HB
       clear HO193
       have HO_7 := n0_
       have BK166 := n1_
       have HO196 := n2_
       have HB := n3_
       clear n0_ n1_ n2_ n3_
       clear ho hb hg
       refine hK.out _ _ trivial (fun hHeld => ?_)
       clear hK K
       refine norm_ (a' := ?_) ?_ ?_
       rotate_left
       ·show Act.put _ (some 36) _ = _
        simp only [Act.put, List.setIfInBounds_toArray, List.set_cons_zero, List.set_cons_succ, i64_w, i32_w]
        rfl
       refine done_ (by kernel_rfl) ?_
       try go_wp2
       go_ret
       exact ⟨_, by first | rfl | (simp [errW_none, errW_some] <;> rfl) | (simp [*, errW_none, errW_some] <;> rfl), by (with_reducible repeat (first | apply Kd.R_alloc | apply Kd.R_drewN | apply Kd.R_drew)); exact Kd.R_mono HO_7.out (fun _ hk => trivial), by repeat (first | (with_reducible first | exact HB.out | apply below_alloc | apply pw_below_drewN | apply below_drew1 | refine below_set ?_ GE166.out) | exact HB.out)⟩
      ·rw [if_neg c36] at H
       exact absurd H (by simp)
     ·rw [if_neg c34] at H
      exact absurd H (by simp)
  ·rw [if_neg c8] at H
   exact absurd H (by simp)
 ·rw [if_neg c7] at H
  exact absurd H (by simp)

end Go.Proofs.Ythfhflgiblmooaa.PFs
