-- Printed by this session's own program (wip/tools/myprint.py over the kit's print, out of the translation). Nothing here is trusted: Lean checks it.
import Derived.Test.YtnofpkbihecabaaPTfx0
import Derived.Test.YtnofpkbihecabaaPTfx4
import Derived.Test.YtnofpkbihecabaaPTfx5
import Derived.Test.YtnofpkbihecabaaPTfx8
import Derived.Test.YtnofpkbihecabaaPTfx9
namespace Go.Proofs.Ytnofpkbihecabaa.PTf
open Go.RowKit Go.Proofs.YtnofpkbihecabaaW.PrintWords Go.Proofs.YtnofpkbihecabaaW.PrintLast Go.Proofs.YtnofpkbihecabaaW.PrintMore
attribute [local go_sem] w64_u8 w64_u8_4 max2_int min2_int max_two min_two max_three min_three max_four min_four   -- for this text's walks alone
set_option linter.unusedVariables false
set_option linter.unusedSimpArgs false

/-! ### laws_FnTimers: function 3 -/
mutual
def laws_FnTimers.j0 : Nat → List Int → List Int → Bool → Option (Bool)
 | 0, _, _, _ => none
 | k + 1, x0, x1, x40 => if x40 = true then (some true) else ((spec_TimersOf.f k x0).bind fun t297 => ((laws_at.f x1 0 20).bind fun t300 => ((impl_TimerPut.f k t297 t300 9).bind fun bt302 => ((spec_TimerPut.f k t297 t300 9).bind fun bt306 => ((impl_TimerPut.f k bt302.1 (wrap64 (t300 + 5)) 9).bind fun bt310 => ((impl_TimersDue.f k bt302.1 t300).bind fun bt314 => ((spec_TimersDue.f k bt302.1 t300).bind fun bt321 => ((impl_TimersDue.f k bt302.1 (wrap64 (t300 - 1))).bind fun bt328 => ((impl_TimersDue.f k bt310.1 (wrap64 (t300 + 4))).bind fun bt335 => ((impl_TimerDrop.f k bt302.1 9).bind fun bt342 => ((impl_TimerDrop.f k bt342.1 9).bind fun bt346 => (if bt302.2 = 0 then ((laws_sameTimers.f k bt302.1 bt306.1).bind fun t350 => (if t350 = true then (if bt310.2 = 0 then (if (bt310.1.length : Int) = (bt302.1.length : Int) then (if bt314.2.2 = 0 then ((laws_sameTimers.f k bt314.1 bt321.1).bind fun t351 => (if t351 = true then ((laws_sameInts.f k bt314.2.1 bt321.2.1).bind fun t352 => (if t352 = true then (if bt328.2.2 = 0 then (if bt335.2.2 = 0 then (if bt342.2 = 0 then ((laws_sameTimers.f k bt342.1 t297).bind fun t353 => (if t353 = true then (if bt346.2 = 5 then (laws_FnTimers.j1 k bt314.2.1 bt328.2.1 bt335.2.1 ((wrap64 ((bt314.1.length : Int) + (bt314.2.1.length : Int))) != (bt302.1.length : Int))) else (laws_FnTimers.j1 k bt314.2.1 bt328.2.1 bt335.2.1 true)) else (laws_FnTimers.j1 k bt314.2.1 bt328.2.1 bt335.2.1 true))) else (laws_FnTimers.j1 k bt314.2.1 bt328.2.1 bt335.2.1 true)) else (laws_FnTimers.j1 k bt314.2.1 bt328.2.1 bt335.2.1 true)) else (laws_FnTimers.j1 k bt314.2.1 bt328.2.1 bt335.2.1 true)) else (laws_FnTimers.j1 k bt314.2.1 bt328.2.1 bt335.2.1 true))) else (laws_FnTimers.j1 k bt314.2.1 bt328.2.1 bt335.2.1 true))) else (laws_FnTimers.j1 k bt314.2.1 bt328.2.1 bt335.2.1 true)) else (laws_FnTimers.j1 k bt314.2.1 bt328.2.1 bt335.2.1 true)) else (laws_FnTimers.j1 k bt314.2.1 bt328.2.1 bt335.2.1 true)) else (laws_FnTimers.j1 k bt314.2.1 bt328.2.1 bt335.2.1 true))) else (laws_FnTimers.j1 k bt314.2.1 bt328.2.1 bt335.2.1 true)))))))))))))
def laws_FnTimers.j1 : Nat → List Int → List Int → List Int → Bool → Option (Bool)
 | 0, _, _, _, _ => none
 | k + 1, x14, x20, x23, x177 => if x177 = true then (some false) else (laws_FnTimers.l0 k x14 x20 x23 0 0)
def laws_FnTimers.l0 : Nat → List Int → List Int → List Int → Int → Int → Option (Bool)
 | 0, _, _, _, _, _ => none
 | k + 1, x14, x20, x23, x29, x30 => if x30 < (x14.length : Int) then (if 0 ≤ x30 then (if (rd x14 x30) = 9 then (laws_FnTimers.l0 k x14 x20 x23 (wrap64 (x29 + 1)) (wrap64 (x30 + 1))) else (laws_FnTimers.l0 k x14 x20 x23 x29 (wrap64 (x30 + 1)))) else (none)) else (laws_FnTimers.l1 k x20 x23 x29 0)
def laws_FnTimers.l1 : Nat → List Int → List Int → Int → Int → Option (Bool)
 | 0, _, _, _, _ => none
 | k + 1, x20, x23, x29, x31 => if x31 < (x20.length : Int) then (if 0 ≤ x31 then (if (rd x20 x31) = 9 then (some false) else (laws_FnTimers.l1 k x20 x23 x29 (wrap64 (x31 + 1)))) else (none)) else (laws_FnTimers.l2 k x23 x29 0)
def laws_FnTimers.l2 : Nat → List Int → Int → Int → Option (Bool)
 | 0, _, _, _ => none
 | k + 1, x23, x29, x32 => if x32 < (x23.length : Int) then (if 0 ≤ x32 then (if (rd x23 x32) = 9 then (some false) else (laws_FnTimers.l2 k x23 x29 (wrap64 (x32 + 1)))) else (none)) else (some (x29 == 1))
end
def laws_FnTimers.f (k : Nat) (l0 : List Int) (l1 : List Int) : Option (Bool) := if (l0.length : Int) > 1048576 then (laws_FnTimers.j0 k l0 l1 true) else (laws_FnTimers.j0 k l0 l1 (decide ((l1.length : Int) > 1048576)))
theorem laws_FnTimers.mono_l : ∀ k, (∀ y0 y1 y2, LeO (laws_FnTimers.j0 k y0 y1 y2) (laws_FnTimers.j0 (k + 1) y0 y1 y2)) ∧ (∀ y0 y1 y2 y3, LeO (laws_FnTimers.j1 k y0 y1 y2 y3) (laws_FnTimers.j1 (k + 1) y0 y1 y2 y3)) ∧ (∀ y0 y1 y2 y3 y4, LeO (laws_FnTimers.l0 k y0 y1 y2 y3 y4) (laws_FnTimers.l0 (k + 1) y0 y1 y2 y3 y4)) ∧ (∀ y0 y1 y2 y3, LeO (laws_FnTimers.l1 k y0 y1 y2 y3) (laws_FnTimers.l1 (k + 1) y0 y1 y2 y3)) ∧ (∀ y0 y1 y2, LeO (laws_FnTimers.l2 k y0 y1 y2) (laws_FnTimers.l2 (k + 1) y0 y1 y2))
 | 0 => ⟨fun _ _ _ r h => by simp [laws_FnTimers.j0] at h, fun _ _ _ _ r h => by simp [laws_FnTimers.j1] at h, fun _ _ _ _ _ r h => by simp [laws_FnTimers.l0] at h, fun _ _ _ _ r h => by simp [laws_FnTimers.l1] at h, fun _ _ _ r h => by simp [laws_FnTimers.l2] at h⟩
 | k + 1 => by
  obtain ⟨ih0, ih1, ih2, ih3, ih4⟩ := laws_FnTimers.mono_l k
  refine ⟨?_, ?_, ?_, ?_, ?_⟩
  ·intro y0 y1 y2
   unfold laws_FnTimers.j0
   repeat' first
   | (with_reducible exact ih0 _ _ _)
   | (with_reducible exact ih1 _ _ _ _)
   | (with_reducible exact ih2 _ _ _ _ _)
   | (with_reducible exact ih3 _ _ _ _)
   | (with_reducible exact ih4 _ _ _)
   | (with_reducible exact impl_TimerDrop.mono _ _ _)
   | (with_reducible exact impl_TimerPut.mono _ _ _ _)
   | (with_reducible exact impl_TimersDue.mono _ _ _)
   | (with_reducible exact laws_sameInts.mono _ _ _)
   | (with_reducible exact laws_sameTimers.mono _ _ _)
   | (with_reducible exact spec_TimerPut.mono _ _ _ _)
   | (with_reducible exact spec_TimersDue.mono _ _ _)
   | (with_reducible exact spec_TimersOf.mono _ _)
   | (with_reducible exact LeO.refl _)
   | (with_reducible exact LeO.none _)
   | (with_reducible refine LeO.ite ?_ ?_)
   | (with_reducible refine LeO.bind ?_ (fun _ => ?_))
   | exact ih0 _ _ _
   | exact ih1 _ _ _ _
   | exact ih2 _ _ _ _ _
   | exact ih3 _ _ _ _
   | exact ih4 _ _ _
   | exact impl_TimerDrop.mono _ _ _
   | exact impl_TimerPut.mono _ _ _ _
   | exact impl_TimersDue.mono _ _ _
   | exact laws_sameInts.mono _ _ _
   | exact laws_sameTimers.mono _ _ _
   | exact spec_TimerPut.mono _ _ _ _
   | exact spec_TimersDue.mono _ _ _
   | exact spec_TimersOf.mono _ _
   | exact LeO.none _
   | refine LeO.ite ?_ ?_
   | refine LeO.bind ?_ (fun _ => ?_)
  ·intro y0 y1 y2 y3
   unfold laws_FnTimers.j1
   repeat' first
   | (with_reducible exact ih0 _ _ _)
   | (with_reducible exact ih1 _ _ _ _)
   | (with_reducible exact ih2 _ _ _ _ _)
   | (with_reducible exact ih3 _ _ _ _)
   | (with_reducible exact ih4 _ _ _)
   | (with_reducible exact impl_TimerDrop.mono _ _ _)
   | (with_reducible exact impl_TimerPut.mono _ _ _ _)
   | (with_reducible exact impl_TimersDue.mono _ _ _)
   | (with_reducible exact laws_sameInts.mono _ _ _)
   | (with_reducible exact laws_sameTimers.mono _ _ _)
   | (with_reducible exact spec_TimerPut.mono _ _ _ _)
   | (with_reducible exact spec_TimersDue.mono _ _ _)
   | (with_reducible exact spec_TimersOf.mono _ _)
   | (with_reducible exact LeO.refl _)
   | (with_reducible exact LeO.none _)
   | (with_reducible refine LeO.ite ?_ ?_)
   | (with_reducible refine LeO.bind ?_ (fun _ => ?_))
   | exact ih0 _ _ _
   | exact ih1 _ _ _ _
   | exact ih2 _ _ _ _ _
   | exact ih3 _ _ _ _
   | exact ih4 _ _ _
   | exact impl_TimerDrop.mono _ _ _
   | exact impl_TimerPut.mono _ _ _ _
   | exact impl_TimersDue.mono _ _ _
   | exact laws_sameInts.mono _ _ _
   | exact laws_sameTimers.mono _ _ _
   | exact spec_TimerPut.mono _ _ _ _
   | exact spec_TimersDue.mono _ _ _
   | exact spec_TimersOf.mono _ _
   | exact LeO.none _
   | refine LeO.ite ?_ ?_
   | refine LeO.bind ?_ (fun _ => ?_)
  ·intro y0 y1 y2 y3 y4
   unfold laws_FnTimers.l0
   repeat' first
   | (with_reducible exact ih0 _ _ _)
   | (with_reducible exact ih1 _ _ _ _)
   | (with_reducible exact ih2 _ _ _ _ _)
   | (with_reducible exact ih3 _ _ _ _)
   | (with_reducible exact ih4 _ _ _)
   | (with_reducible exact impl_TimerDrop.mono _ _ _)
   | (with_reducible exact impl_TimerPut.mono _ _ _ _)
   | (with_reducible exact impl_TimersDue.mono _ _ _)
   | (with_reducible exact laws_sameInts.mono _ _ _)
   | (with_reducible exact laws_sameTimers.mono _ _ _)
   | (with_reducible exact spec_TimerPut.mono _ _ _ _)
   | (with_reducible exact spec_TimersDue.mono _ _ _)
   | (with_reducible exact spec_TimersOf.mono _ _)
   | (with_reducible exact LeO.refl _)
   | (with_reducible exact LeO.none _)
   | (with_reducible refine LeO.ite ?_ ?_)
   | (with_reducible refine LeO.bind ?_ (fun _ => ?_))
   | exact ih0 _ _ _
   | exact ih1 _ _ _ _
   | exact ih2 _ _ _ _ _
   | exact ih3 _ _ _ _
   | exact ih4 _ _ _
   | exact impl_TimerDrop.mono _ _ _
   | exact impl_TimerPut.mono _ _ _ _
   | exact impl_TimersDue.mono _ _ _
   | exact laws_sameInts.mono _ _ _
   | exact laws_sameTimers.mono _ _ _
   | exact spec_TimerPut.mono _ _ _ _
   | exact spec_TimersDue.mono _ _ _
   | exact spec_TimersOf.mono _ _
   | exact LeO.none _
   | refine LeO.ite ?_ ?_
   | refine LeO.bind ?_ (fun _ => ?_)
  ·intro y0 y1 y2 y3
   unfold laws_FnTimers.l1
   repeat' first
   | (with_reducible exact ih0 _ _ _)
   | (with_reducible exact ih1 _ _ _ _)
   | (with_reducible exact ih2 _ _ _ _ _)
   | (with_reducible exact ih3 _ _ _ _)
   | (with_reducible exact ih4 _ _ _)
   | (with_reducible exact impl_TimerDrop.mono _ _ _)
   | (with_reducible exact impl_TimerPut.mono _ _ _ _)
   | (with_reducible exact impl_TimersDue.mono _ _ _)
   | (with_reducible exact laws_sameInts.mono _ _ _)
   | (with_reducible exact laws_sameTimers.mono _ _ _)
   | (with_reducible exact spec_TimerPut.mono _ _ _ _)
   | (with_reducible exact spec_TimersDue.mono _ _ _)
   | (with_reducible exact spec_TimersOf.mono _ _)
   | (with_reducible exact LeO.refl _)
   | (with_reducible exact LeO.none _)
   | (with_reducible refine LeO.ite ?_ ?_)
   | (with_reducible refine LeO.bind ?_ (fun _ => ?_))
   | exact ih0 _ _ _
   | exact ih1 _ _ _ _
   | exact ih2 _ _ _ _ _
   | exact ih3 _ _ _ _
   | exact ih4 _ _ _
   | exact impl_TimerDrop.mono _ _ _
   | exact impl_TimerPut.mono _ _ _ _
   | exact impl_TimersDue.mono _ _ _
   | exact laws_sameInts.mono _ _ _
   | exact laws_sameTimers.mono _ _ _
   | exact spec_TimerPut.mono _ _ _ _
   | exact spec_TimersDue.mono _ _ _
   | exact spec_TimersOf.mono _ _
   | exact LeO.none _
   | refine LeO.ite ?_ ?_
   | refine LeO.bind ?_ (fun _ => ?_)
  ·intro y0 y1 y2
   unfold laws_FnTimers.l2
   repeat' first
   | (with_reducible exact ih0 _ _ _)
   | (with_reducible exact ih1 _ _ _ _)
   | (with_reducible exact ih2 _ _ _ _ _)
   | (with_reducible exact ih3 _ _ _ _)
   | (with_reducible exact ih4 _ _ _)
   | (with_reducible exact impl_TimerDrop.mono _ _ _)
   | (with_reducible exact impl_TimerPut.mono _ _ _ _)
   | (with_reducible exact impl_TimersDue.mono _ _ _)
   | (with_reducible exact laws_sameInts.mono _ _ _)
   | (with_reducible exact laws_sameTimers.mono _ _ _)
   | (with_reducible exact spec_TimerPut.mono _ _ _ _)
   | (with_reducible exact spec_TimersDue.mono _ _ _)
   | (with_reducible exact spec_TimersOf.mono _ _)
   | (with_reducible exact LeO.refl _)
   | (with_reducible exact LeO.none _)
   | (with_reducible refine LeO.ite ?_ ?_)
   | (with_reducible refine LeO.bind ?_ (fun _ => ?_))
   | exact ih0 _ _ _
   | exact ih1 _ _ _ _
   | exact ih2 _ _ _ _ _
   | exact ih3 _ _ _ _
   | exact ih4 _ _ _
   | exact impl_TimerDrop.mono _ _ _
   | exact impl_TimerPut.mono _ _ _ _
   | exact impl_TimersDue.mono _ _ _
   | exact laws_sameInts.mono _ _ _
   | exact laws_sameTimers.mono _ _ _
   | exact spec_TimerPut.mono _ _ _ _
   | exact spec_TimersDue.mono _ _ _
   | exact spec_TimersOf.mono _ _
   | exact LeO.none _
   | refine LeO.ite ?_ ?_
   | refine LeO.bind ?_ (fun _ => ?_)
theorem laws_FnTimers.mono : ∀ a0 a1 k, LeO (laws_FnTimers.f k a0 a1) (laws_FnTimers.f (k + 1) a0 a1) := by
 intro a0 a1 k
 obtain ⟨ih0, ih1, ih2, ih3, ih4⟩ := laws_FnTimers.mono_l k
 unfold laws_FnTimers.f
 repeat' first
   | (with_reducible exact ih0 _ _ _)
   | (with_reducible exact ih1 _ _ _ _)
   | (with_reducible exact ih2 _ _ _ _ _)
   | (with_reducible exact ih3 _ _ _ _)
   | (with_reducible exact ih4 _ _ _)
   | (with_reducible exact impl_TimerDrop.mono _ _ _)
   | (with_reducible exact impl_TimerPut.mono _ _ _ _)
   | (with_reducible exact impl_TimersDue.mono _ _ _)
   | (with_reducible exact laws_sameInts.mono _ _ _)
   | (with_reducible exact laws_sameTimers.mono _ _ _)
   | (with_reducible exact spec_TimerPut.mono _ _ _ _)
   | (with_reducible exact spec_TimersDue.mono _ _ _)
   | (with_reducible exact spec_TimersOf.mono _ _)
   | (with_reducible exact LeO.refl _)
   | (with_reducible exact LeO.none _)
   | (with_reducible refine LeO.ite ?_ ?_)
   | (with_reducible refine LeO.bind ?_ (fun _ => ?_))
   | exact ih0 _ _ _
   | exact ih1 _ _ _ _
   | exact ih2 _ _ _ _ _
   | exact ih3 _ _ _ _
   | exact ih4 _ _ _
   | exact impl_TimerDrop.mono _ _ _
   | exact impl_TimerPut.mono _ _ _ _
   | exact impl_TimersDue.mono _ _ _
   | exact laws_sameInts.mono _ _ _
   | exact laws_sameTimers.mono _ _ _
   | exact spec_TimerPut.mono _ _ _ _
   | exact spec_TimersDue.mono _ _ _
   | exact spec_TimersOf.mono _ _
   | exact LeO.none _
   | refine LeO.ite ?_ ?_
   | refine LeO.bind ?_ (fun _ => ?_)
set_option maxHeartbeats 40000000 in
set_option maxRecDepth 100000 in
theorem laws_FnTimers.calls (k : Nat) (A0 : Option Addr) (c0 : Nat) (l0 : List Int) (A1 : Option Addr) (c1 : Nat) (l1 : List Int) (r : Bool) (w : World) (hr0 : Kd.C (Kd.int .u8) w A0 l0.length l0) (hc0 : l0.length ≤ c0) (hr1 : Kd.C (Kd.int .u8) w A1 l1.length l1) (hc1 : l1.length ≤ c1) (h : laws_FnTimers.f k l0 l1 = some r) :
  Calls Try.prog 3 #[.slice A0 l0.length c0, .slice A1 l1.length c1] w fun e w' => e = .returned (.bool r) ∧ Below w.heap.size w w' := by
 have hu27 := Try.underlying27
 have HR0 := Aside0.mk hr0
 have HC0 := Aside0.mk hc0
 clear hr0 hc0
 have HR1 := Aside0.mk hr1
 have HC1 := Aside0.mk hc1
 clear hr1 hc1
 have HB := Aside0.mk (Below.refl w.heap.size w)
 have H : (if (l0.length : Int) > 1048576 then (laws_FnTimers.j0 k l0 l1 true) else (laws_FnTimers.j0 k l0 l1 (decide ((l1.length : Int) > 1048576)))) = some r := h
 clear h
 have HC3 := Aside0.mk H
 clear H
 go_enter Try.func3, Try.ntmps3
 go_upto_region 1 with (fail)
 go_cut [40] (fun v40 wc => ∃ (kq : Nat) (x40_2 : Bool), v40 = .bool x40_2 ∧ Aside0 (laws_FnTimers.j0 kq l0 l1 x40_2 = some r) ∧ Aside0 (kq ≤ k) ∧ Aside0 (Below w.heap.size w wc))
 case first =>
  have H := HC3.out
  clear HC3
  by_cases c4 : (l0.length : Int) > 1048576
  ·rw [if_pos c4] at H
   have c4b0 : decide (1048576 < (l0.length : Int)) = true := decide_eq_true c4
   have c4b1 : decide (1048576 < l0.length) = true := decide_eq_true (by omega)
   clear c4
   (first | rw [c4b0] | (simp only [i64_w, i32_w]; rw [c4b0]) | skip)
   have H' := Aside0.mk H
   clear H
   go_wp2
   go_meet
   case rel => exact ⟨_, (true), (by first | rfl | (simp; done) | (simp [*]; done)), H', ⟨by first | omega | exact Nat.le_refl _⟩, ⟨by repeat (first | (with_reducible first | exact HB.out | apply below_alloc | apply pw_below_drewN | apply below_drew1) | exact HB.out)⟩⟩
  ·rw [if_neg c4] at H
   have c4b0 : decide (1048576 < (l0.length : Int)) = false := decide_eq_false c4
   have c4b1 : decide (1048576 < l0.length) = false := decide_eq_false (by omega)
   clear c4
   (first | rw [c4b0] | (simp only [i64_w, i32_w]; rw [c4b0]) | skip)
   have H' := Aside0.mk H
   clear H
   go_wp2
   go_meet
   case rel => exact ⟨_, (decide ((l1.length : Int) > 1048576)), (by first | rfl | (simp; done) | (simp [*]; done)), H', ⟨by first | omega | exact Nat.le_refl _⟩, ⟨by repeat (first | (with_reducible first | exact HB.out | apply below_alloc | apply pw_below_drewN | apply below_drew1) | exact HB.out)⟩⟩
 case rest =>
  clear HC3
  try clear c1
  try clear p2
  try clear c3
  try clear c4
  try clear c4b0
  try clear c4b1
  obtain ⟨kq, x40_2, rfl, HA, HJ2, HB⟩ := hcut
  cases kq with
  | zero => exact absurd HA.out (by simp [laws_FnTimers.j0])
  | succ kj2 =>
   have H := HA.out
   clear HA
   simp only [laws_FnTimers.j0] at H
   by_cases c5 : x40_2 = true
   ·subst c5
    have H1 : (some true) = some r := by rw [if_pos rfl] at H; exact H
    clear H
    have H := H1
    clear H1
    obtain rfl := Option.some.inj H
    go_wp2
    go_ret
    exact ⟨by first | rfl | (simp [errW_none, errW_some] <;> rfl) | (simp [*, errW_none, errW_some] <;> rfl), by repeat (first | (with_reducible first | exact HB.out | apply below_alloc | apply pw_below_drewN | apply below_drew1) | exact HB.out)⟩
   ·replace c5 := Bool.eq_false_iff.mpr c5
    subst c5
    have H1 : ((spec_TimersOf.f kj2 l0).bind fun t297 => ((laws_at.f l1 0 20).bind fun t300 => ((impl_TimerPut.f kj2 t297 t300 9).bind fun bt302 => ((spec_TimerPut.f kj2 t297 t300 9).bind fun bt306 => ((impl_TimerPut.f kj2 bt302.1 (wrap64 (t300 + 5)) 9).bind fun bt310 => ((impl_TimersDue.f kj2 bt302.1 t300).bind fun bt314 => ((spec_TimersDue.f kj2 bt302.1 t300).bind fun bt321 => ((impl_TimersDue.f kj2 bt302.1 (wrap64 (t300 - 1))).bind fun bt328 => ((impl_TimersDue.f kj2 bt310.1 (wrap64 (t300 + 4))).bind fun bt335 => ((impl_TimerDrop.f kj2 bt302.1 9).bind fun bt342 => ((impl_TimerDrop.f kj2 bt342.1 9).bind fun bt346 => (if bt302.2 = 0 then ((laws_sameTimers.f kj2 bt302.1 bt306.1).bind fun t350 => (if t350 = true then (if bt310.2 = 0 then (if (bt310.1.length : Int) = (bt302.1.length : Int) then (if bt314.2.2 = 0 then ((laws_sameTimers.f kj2 bt314.1 bt321.1).bind fun t351 => (if t351 = true then ((laws_sameInts.f kj2 bt314.2.1 bt321.2.1).bind fun t352 => (if t352 = true then (if bt328.2.2 = 0 then (if bt335.2.2 = 0 then (if bt342.2 = 0 then ((laws_sameTimers.f kj2 bt342.1 t297).bind fun t353 => (if t353 = true then (if bt346.2 = 5 then (laws_FnTimers.j1 kj2 bt314.2.1 bt328.2.1 bt335.2.1 ((wrap64 ((bt314.1.length : Int) + (bt314.2.1.length : Int))) != (bt302.1.length : Int))) else (laws_FnTimers.j1 kj2 bt314.2.1 bt328.2.1 bt335.2.1 true)) else (laws_FnTimers.j1 kj2 bt314.2.1 bt328.2.1 bt335.2.1 true))) else (laws_FnTimers.j1 kj2 bt314.2.1 bt328.2.1 bt335.2.1 true)) else (laws_FnTimers.j1 kj2 bt314.2.1 bt328.2.1 bt335.2.1 true)) else (laws_FnTimers.j1 kj2 bt314.2.1 bt328.2.1 bt335.2.1 true)) else (laws_FnTimers.j1 kj2 bt314.2.1 bt328.2.1 bt335.2.1 true))) else (laws_FnTimers.j1 kj2 bt314.2.1 bt328.2.1 bt335.2.1 true))) else (laws_FnTimers.j1 kj2 bt314.2.1 bt328.2.1 bt335.2.1 true)) else (laws_FnTimers.j1 kj2 bt314.2.1 bt328.2.1 bt335.2.1 true)) else (laws_FnTimers.j1 kj2 bt314.2.1 bt328.2.1 bt335.2.1 true)) else (laws_FnTimers.j1 kj2 bt314.2.1 bt328.2.1 bt335.2.1 true))) else (laws_FnTimers.j1 kj2 bt314.2.1 bt328.2.1 bt335.2.1 true))))))))))))) = some r := by rw [if_neg (show ¬ (false = true) by decide)] at H; exact H
    clear H
    have H := H1
    clear H1
    replace H := Option.bind_eq_some_iff.mp H
    obtain ⟨t297, A60, H⟩ := H
    replace H : ((laws_at.f l1 0 20).bind fun t300 => ((impl_TimerPut.f kj2 t297 t300 9).bind fun bt302 => ((spec_TimerPut.f kj2 t297 t300 9).bind fun bt306 => ((impl_TimerPut.f kj2 bt302.1 (wrap64 (t300 + 5)) 9).bind fun bt310 => ((impl_TimersDue.f kj2 bt302.1 t300).bind fun bt314 => ((spec_TimersDue.f kj2 bt302.1 t300).bind fun bt321 => ((impl_TimersDue.f kj2 bt302.1 (wrap64 (t300 - 1))).bind fun bt328 => ((impl_TimersDue.f kj2 bt310.1 (wrap64 (t300 + 4))).bind fun bt335 => ((impl_TimerDrop.f kj2 bt302.1 9).bind fun bt342 => ((impl_TimerDrop.f kj2 bt342.1 9).bind fun bt346 => (if bt302.2 = 0 then ((laws_sameTimers.f kj2 bt302.1 bt306.1).bind fun t350 => (if t350 = true then (if bt310.2 = 0 then (if (bt310.1.length : Int) = (bt302.1.length : Int) then (if bt314.2.2 = 0 then ((laws_sameTimers.f kj2 bt314.1 bt321.1).bind fun t351 => (if t351 = true then ((laws_sameInts.f kj2 bt314.2.1 bt321.2.1).bind fun t352 => (if t352 = true then (if bt328.2.2 = 0 then (if bt335.2.2 = 0 then (if bt342.2 = 0 then ((laws_sameTimers.f kj2 bt342.1 t297).bind fun t353 => (if t353 = true then (if bt346.2 = 5 then (laws_FnTimers.j1 kj2 bt314.2.1 bt328.2.1 bt335.2.1 ((wrap64 ((bt314.1.length : Int) + (bt314.2.1.length : Int))) != (bt302.1.length : Int))) else (laws_FnTimers.j1 kj2 bt314.2.1 bt328.2.1 bt335.2.1 true)) else (laws_FnTimers.j1 kj2 bt314.2.1 bt328.2.1 bt335.2.1 true))) else (laws_FnTimers.j1 kj2 bt314.2.1 bt328.2.1 bt335.2.1 true)) else (laws_FnTimers.j1 kj2 bt314.2.1 bt328.2.1 bt335.2.1 true)) else (laws_FnTimers.j1 kj2 bt314.2.1 bt328.2.1 bt335.2.1 true)) else (laws_FnTimers.j1 kj2 bt314.2.1 bt328.2.1 bt335.2.1 true))) else (laws_FnTimers.j1 kj2 bt314.2.1 bt328.2.1 bt335.2.1 true))) else (laws_FnTimers.j1 kj2 bt314.2.1 bt328.2.1 bt335.2.1 true)) else (laws_FnTimers.j1 kj2 bt314.2.1 bt328.2.1 bt335.2.1 true)) else (laws_FnTimers.j1 kj2 bt314.2.1 bt328.2.1 bt335.2.1 true)) else (laws_FnTimers.j1 kj2 bt314.2.1 bt328.2.1 bt335.2.1 true))) else (laws_FnTimers.j1 kj2 bt314.2.1 bt328.2.1 bt335.2.1 true)))))))))))) = some r := H
    have A6 := Aside0.mk A60
    clear A60
    replace H := Option.bind_eq_some_iff.mp H
    obtain ⟨t300, A70, H⟩ := H
    replace H : ((impl_TimerPut.f kj2 t297 t300 9).bind fun bt302 => ((spec_TimerPut.f kj2 t297 t300 9).bind fun bt306 => ((impl_TimerPut.f kj2 bt302.1 (wrap64 (t300 + 5)) 9).bind fun bt310 => ((impl_TimersDue.f kj2 bt302.1 t300).bind fun bt314 => ((spec_TimersDue.f kj2 bt302.1 t300).bind fun bt321 => ((impl_TimersDue.f kj2 bt302.1 (wrap64 (t300 - 1))).bind fun bt328 => ((impl_TimersDue.f kj2 bt310.1 (wrap64 (t300 + 4))).bind fun bt335 => ((impl_TimerDrop.f kj2 bt302.1 9).bind fun bt342 => ((impl_TimerDrop.f kj2 bt342.1 9).bind fun bt346 => (if bt302.2 = 0 then ((laws_sameTimers.f kj2 bt302.1 bt306.1).bind fun t350 => (if t350 = true then (if bt310.2 = 0 then (if (bt310.1.length : Int) = (bt302.1.length : Int) then (if bt314.2.2 = 0 then ((laws_sameTimers.f kj2 bt314.1 bt321.1).bind fun t351 => (if t351 = true then ((laws_sameInts.f kj2 bt314.2.1 bt321.2.1).bind fun t352 => (if t352 = true then (if bt328.2.2 = 0 then (if bt335.2.2 = 0 then (if bt342.2 = 0 then ((laws_sameTimers.f kj2 bt342.1 t297).bind fun t353 => (if t353 = true then (if bt346.2 = 5 then (laws_FnTimers.j1 kj2 bt314.2.1 bt328.2.1 bt335.2.1 ((wrap64 ((bt314.1.length : Int) + (bt314.2.1.length : Int))) != (bt302.1.length : Int))) else (laws_FnTimers.j1 kj2 bt314.2.1 bt328.2.1 bt335.2.1 true)) else (laws_FnTimers.j1 kj2 bt314.2.1 bt328.2.1 bt335.2.1 true))) else (laws_FnTimers.j1 kj2 bt314.2.1 bt328.2.1 bt335.2.1 true)) else (laws_FnTimers.j1 kj2 bt314.2.1 bt328.2.1 bt335.2.1 true)) else (laws_FnTimers.j1 kj2 bt314.2.1 bt328.2.1 bt335.2.1 true)) else (laws_FnTimers.j1 kj2 bt314.2.1 bt328.2.1 bt335.2.1 true))) else (laws_FnTimers.j1 kj2 bt314.2.1 bt328.2.1 bt335.2.1 true))) else (laws_FnTimers.j1 kj2 bt314.2.1 bt328.2.1 bt335.2.1 true)) else (laws_FnTimers.j1 kj2 bt314.2.1 bt328.2.1 bt335.2.1 true)) else (laws_FnTimers.j1 kj2 bt314.2.1 bt328.2.1 bt335.2.1 true)) else (laws_FnTimers.j1 kj2 bt314.2.1 bt328.2.1 bt335.2.1 true))) else (laws_FnTimers.j1 kj2 bt314.2.1 bt328.2.1 bt335.2.1 true))))))))))) = some r := H
    have A7 := Aside0.mk A70
    clear A70
    replace H := Option.bind_eq_some_iff.mp H
    obtain ⟨⟨t302, t305⟩, A80, H⟩ := H
    replace H : ((spec_TimerPut.f kj2 t297 t300 9).bind fun bt306 => ((impl_TimerPut.f kj2 t302 (wrap64 (t300 + 5)) 9).bind fun bt310 => ((impl_TimersDue.f kj2 t302 t300).bind fun bt314 => ((spec_TimersDue.f kj2 t302 t300).bind fun bt321 => ((impl_TimersDue.f kj2 t302 (wrap64 (t300 - 1))).bind fun bt328 => ((impl_TimersDue.f kj2 bt310.1 (wrap64 (t300 + 4))).bind fun bt335 => ((impl_TimerDrop.f kj2 t302 9).bind fun bt342 => ((impl_TimerDrop.f kj2 bt342.1 9).bind fun bt346 => (if t305 = 0 then ((laws_sameTimers.f kj2 t302 bt306.1).bind fun t350 => (if t350 = true then (if bt310.2 = 0 then (if (bt310.1.length : Int) = (t302.length : Int) then (if bt314.2.2 = 0 then ((laws_sameTimers.f kj2 bt314.1 bt321.1).bind fun t351 => (if t351 = true then ((laws_sameInts.f kj2 bt314.2.1 bt321.2.1).bind fun t352 => (if t352 = true then (if bt328.2.2 = 0 then (if bt335.2.2 = 0 then (if bt342.2 = 0 then ((laws_sameTimers.f kj2 bt342.1 t297).bind fun t353 => (if t353 = true then (if bt346.2 = 5 then (laws_FnTimers.j1 kj2 bt314.2.1 bt328.2.1 bt335.2.1 ((wrap64 ((bt314.1.length : Int) + (bt314.2.1.length : Int))) != (t302.length : Int))) else (laws_FnTimers.j1 kj2 bt314.2.1 bt328.2.1 bt335.2.1 true)) else (laws_FnTimers.j1 kj2 bt314.2.1 bt328.2.1 bt335.2.1 true))) else (laws_FnTimers.j1 kj2 bt314.2.1 bt328.2.1 bt335.2.1 true)) else (laws_FnTimers.j1 kj2 bt314.2.1 bt328.2.1 bt335.2.1 true)) else (laws_FnTimers.j1 kj2 bt314.2.1 bt328.2.1 bt335.2.1 true)) else (laws_FnTimers.j1 kj2 bt314.2.1 bt328.2.1 bt335.2.1 true))) else (laws_FnTimers.j1 kj2 bt314.2.1 bt328.2.1 bt335.2.1 true))) else (laws_FnTimers.j1 kj2 bt314.2.1 bt328.2.1 bt335.2.1 true)) else (laws_FnTimers.j1 kj2 bt314.2.1 bt328.2.1 bt335.2.1 true)) else (laws_FnTimers.j1 kj2 bt314.2.1 bt328.2.1 bt335.2.1 true)) else (laws_FnTimers.j1 kj2 bt314.2.1 bt328.2.1 bt335.2.1 true))) else (laws_FnTimers.j1 kj2 bt314.2.1 bt328.2.1 bt335.2.1 true)))))))))) = some r := H
    have A8 := Aside0.mk A80
    clear A80
    replace H := Option.bind_eq_some_iff.mp H
    obtain ⟨⟨t306, t309⟩, A90, H⟩ := H
    replace H : ((impl_TimerPut.f kj2 t302 (wrap64 (t300 + 5)) 9).bind fun bt310 => ((impl_TimersDue.f kj2 t302 t300).bind fun bt314 => ((spec_TimersDue.f kj2 t302 t300).bind fun bt321 => ((impl_TimersDue.f kj2 t302 (wrap64 (t300 - 1))).bind fun bt328 => ((impl_TimersDue.f kj2 bt310.1 (wrap64 (t300 + 4))).bind fun bt335 => ((impl_TimerDrop.f kj2 t302 9).bind fun bt342 => ((impl_TimerDrop.f kj2 bt342.1 9).bind fun bt346 => (if t305 = 0 then ((laws_sameTimers.f kj2 t302 t306).bind fun t350 => (if t350 = true then (if bt310.2 = 0 then (if (bt310.1.length : Int) = (t302.length : Int) then (if bt314.2.2 = 0 then ((laws_sameTimers.f kj2 bt314.1 bt321.1).bind fun t351 => (if t351 = true then ((laws_sameInts.f kj2 bt314.2.1 bt321.2.1).bind fun t352 => (if t352 = true then (if bt328.2.2 = 0 then (if bt335.2.2 = 0 then (if bt342.2 = 0 then ((laws_sameTimers.f kj2 bt342.1 t297).bind fun t353 => (if t353 = true then (if bt346.2 = 5 then (laws_FnTimers.j1 kj2 bt314.2.1 bt328.2.1 bt335.2.1 ((wrap64 ((bt314.1.length : Int) + (bt314.2.1.length : Int))) != (t302.length : Int))) else (laws_FnTimers.j1 kj2 bt314.2.1 bt328.2.1 bt335.2.1 true)) else (laws_FnTimers.j1 kj2 bt314.2.1 bt328.2.1 bt335.2.1 true))) else (laws_FnTimers.j1 kj2 bt314.2.1 bt328.2.1 bt335.2.1 true)) else (laws_FnTimers.j1 kj2 bt314.2.1 bt328.2.1 bt335.2.1 true)) else (laws_FnTimers.j1 kj2 bt314.2.1 bt328.2.1 bt335.2.1 true)) else (laws_FnTimers.j1 kj2 bt314.2.1 bt328.2.1 bt335.2.1 true))) else (laws_FnTimers.j1 kj2 bt314.2.1 bt328.2.1 bt335.2.1 true))) else (laws_FnTimers.j1 kj2 bt314.2.1 bt328.2.1 bt335.2.1 true)) else (laws_FnTimers.j1 kj2 bt314.2.1 bt328.2.1 bt335.2.1 true)) else (laws_FnTimers.j1 kj2 bt314.2.1 bt328.2.1 bt335.2.1 true)) else (laws_FnTimers.j1 kj2 bt314.2.1 bt328.2.1 bt335.2.1 true))) else (laws_FnTimers.j1 kj2 bt314.2.1 bt328.2.1 bt335.2.1 true))))))))) = some r := H
    have A9 := Aside0.mk A90
    clear A90
    replace H := Option.bind_eq_some_iff.mp H
    obtain ⟨⟨t310, t313⟩, A100, H⟩ := H
    replace H : ((impl_TimersDue.f kj2 t302 t300).bind fun bt314 => ((spec_TimersDue.f kj2 t302 t300).bind fun bt321 => ((impl_TimersDue.f kj2 t302 (wrap64 (t300 - 1))).bind fun bt328 => ((impl_TimersDue.f kj2 t310 (wrap64 (t300 + 4))).bind fun bt335 => ((impl_TimerDrop.f kj2 t302 9).bind fun bt342 => ((impl_TimerDrop.f kj2 bt342.1 9).bind fun bt346 => (if t305 = 0 then ((laws_sameTimers.f kj2 t302 t306).bind fun t350 => (if t350 = true then (if t313 = 0 then (if (t310.length : Int) = (t302.length : Int) then (if bt314.2.2 = 0 then ((laws_sameTimers.f kj2 bt314.1 bt321.1).bind fun t351 => (if t351 = true then ((laws_sameInts.f kj2 bt314.2.1 bt321.2.1).bind fun t352 => (if t352 = true then (if bt328.2.2 = 0 then (if bt335.2.2 = 0 then (if bt342.2 = 0 then ((laws_sameTimers.f kj2 bt342.1 t297).bind fun t353 => (if t353 = true then (if bt346.2 = 5 then (laws_FnTimers.j1 kj2 bt314.2.1 bt328.2.1 bt335.2.1 ((wrap64 ((bt314.1.length : Int) + (bt314.2.1.length : Int))) != (t302.length : Int))) else (laws_FnTimers.j1 kj2 bt314.2.1 bt328.2.1 bt335.2.1 true)) else (laws_FnTimers.j1 kj2 bt314.2.1 bt328.2.1 bt335.2.1 true))) else (laws_FnTimers.j1 kj2 bt314.2.1 bt328.2.1 bt335.2.1 true)) else (laws_FnTimers.j1 kj2 bt314.2.1 bt328.2.1 bt335.2.1 true)) else (laws_FnTimers.j1 kj2 bt314.2.1 bt328.2.1 bt335.2.1 true)) else (laws_FnTimers.j1 kj2 bt314.2.1 bt328.2.1 bt335.2.1 true))) else (laws_FnTimers.j1 kj2 bt314.2.1 bt328.2.1 bt335.2.1 true))) else (laws_FnTimers.j1 kj2 bt314.2.1 bt328.2.1 bt335.2.1 true)) else (laws_FnTimers.j1 kj2 bt314.2.1 bt328.2.1 bt335.2.1 true)) else (laws_FnTimers.j1 kj2 bt314.2.1 bt328.2.1 bt335.2.1 true)) else (laws_FnTimers.j1 kj2 bt314.2.1 bt328.2.1 bt335.2.1 true))) else (laws_FnTimers.j1 kj2 bt314.2.1 bt328.2.1 bt335.2.1 true)))))))) = some r := H
    have A10 := Aside0.mk A100
    clear A100
    replace H := Option.bind_eq_some_iff.mp H
    obtain ⟨⟨t314, t315, t316⟩, A110, H⟩ := H
    replace H : ((spec_TimersDue.f kj2 t302 t300).bind fun bt321 => ((impl_TimersDue.f kj2 t302 (wrap64 (t300 - 1))).bind fun bt328 => ((impl_TimersDue.f kj2 t310 (wrap64 (t300 + 4))).bind fun bt335 => ((impl_TimerDrop.f kj2 t302 9).bind fun bt342 => ((impl_TimerDrop.f kj2 bt342.1 9).bind fun bt346 => (if t305 = 0 then ((laws_sameTimers.f kj2 t302 t306).bind fun t350 => (if t350 = true then (if t313 = 0 then (if (t310.length : Int) = (t302.length : Int) then (if t316 = 0 then ((laws_sameTimers.f kj2 t314 bt321.1).bind fun t351 => (if t351 = true then ((laws_sameInts.f kj2 t315 bt321.2.1).bind fun t352 => (if t352 = true then (if bt328.2.2 = 0 then (if bt335.2.2 = 0 then (if bt342.2 = 0 then ((laws_sameTimers.f kj2 bt342.1 t297).bind fun t353 => (if t353 = true then (if bt346.2 = 5 then (laws_FnTimers.j1 kj2 t315 bt328.2.1 bt335.2.1 ((wrap64 ((t314.length : Int) + (t315.length : Int))) != (t302.length : Int))) else (laws_FnTimers.j1 kj2 t315 bt328.2.1 bt335.2.1 true)) else (laws_FnTimers.j1 kj2 t315 bt328.2.1 bt335.2.1 true))) else (laws_FnTimers.j1 kj2 t315 bt328.2.1 bt335.2.1 true)) else (laws_FnTimers.j1 kj2 t315 bt328.2.1 bt335.2.1 true)) else (laws_FnTimers.j1 kj2 t315 bt328.2.1 bt335.2.1 true)) else (laws_FnTimers.j1 kj2 t315 bt328.2.1 bt335.2.1 true))) else (laws_FnTimers.j1 kj2 t315 bt328.2.1 bt335.2.1 true))) else (laws_FnTimers.j1 kj2 t315 bt328.2.1 bt335.2.1 true)) else (laws_FnTimers.j1 kj2 t315 bt328.2.1 bt335.2.1 true)) else (laws_FnTimers.j1 kj2 t315 bt328.2.1 bt335.2.1 true)) else (laws_FnTimers.j1 kj2 t315 bt328.2.1 bt335.2.1 true))) else (laws_FnTimers.j1 kj2 t315 bt328.2.1 bt335.2.1 true))))))) = some r := H
    have A11 := Aside0.mk A110
    clear A110
    replace H := Option.bind_eq_some_iff.mp H
    obtain ⟨⟨t321, t322, t323⟩, A120, H⟩ := H
    replace H : ((impl_TimersDue.f kj2 t302 (wrap64 (t300 - 1))).bind fun bt328 => ((impl_TimersDue.f kj2 t310 (wrap64 (t300 + 4))).bind fun bt335 => ((impl_TimerDrop.f kj2 t302 9).bind fun bt342 => ((impl_TimerDrop.f kj2 bt342.1 9).bind fun bt346 => (if t305 = 0 then ((laws_sameTimers.f kj2 t302 t306).bind fun t350 => (if t350 = true then (if t313 = 0 then (if (t310.length : Int) = (t302.length : Int) then (if t316 = 0 then ((laws_sameTimers.f kj2 t314 t321).bind fun t351 => (if t351 = true then ((laws_sameInts.f kj2 t315 t322).bind fun t352 => (if t352 = true then (if bt328.2.2 = 0 then (if bt335.2.2 = 0 then (if bt342.2 = 0 then ((laws_sameTimers.f kj2 bt342.1 t297).bind fun t353 => (if t353 = true then (if bt346.2 = 5 then (laws_FnTimers.j1 kj2 t315 bt328.2.1 bt335.2.1 ((wrap64 ((t314.length : Int) + (t315.length : Int))) != (t302.length : Int))) else (laws_FnTimers.j1 kj2 t315 bt328.2.1 bt335.2.1 true)) else (laws_FnTimers.j1 kj2 t315 bt328.2.1 bt335.2.1 true))) else (laws_FnTimers.j1 kj2 t315 bt328.2.1 bt335.2.1 true)) else (laws_FnTimers.j1 kj2 t315 bt328.2.1 bt335.2.1 true)) else (laws_FnTimers.j1 kj2 t315 bt328.2.1 bt335.2.1 true)) else (laws_FnTimers.j1 kj2 t315 bt328.2.1 bt335.2.1 true))) else (laws_FnTimers.j1 kj2 t315 bt328.2.1 bt335.2.1 true))) else (laws_FnTimers.j1 kj2 t315 bt328.2.1 bt335.2.1 true)) else (laws_FnTimers.j1 kj2 t315 bt328.2.1 bt335.2.1 true)) else (laws_FnTimers.j1 kj2 t315 bt328.2.1 bt335.2.1 true)) else (laws_FnTimers.j1 kj2 t315 bt328.2.1 bt335.2.1 true))) else (laws_FnTimers.j1 kj2 t315 bt328.2.1 bt335.2.1 true)))))) = some r := H
    have A12 := Aside0.mk A120
    clear A120
    replace H := Option.bind_eq_some_iff.mp H
    obtain ⟨⟨t328, t329, t330⟩, A130, H⟩ := H
    replace H : ((impl_TimersDue.f kj2 t310 (wrap64 (t300 + 4))).bind fun bt335 => ((impl_TimerDrop.f kj2 t302 9).bind fun bt342 => ((impl_TimerDrop.f kj2 bt342.1 9).bind fun bt346 => (if t305 = 0 then ((laws_sameTimers.f kj2 t302 t306).bind fun t350 => (if t350 = true then (if t313 = 0 then (if (t310.length : Int) = (t302.length : Int) then (if t316 = 0 then ((laws_sameTimers.f kj2 t314 t321).bind fun t351 => (if t351 = true then ((laws_sameInts.f kj2 t315 t322).bind fun t352 => (if t352 = true then (if t330 = 0 then (if bt335.2.2 = 0 then (if bt342.2 = 0 then ((laws_sameTimers.f kj2 bt342.1 t297).bind fun t353 => (if t353 = true then (if bt346.2 = 5 then (laws_FnTimers.j1 kj2 t315 t329 bt335.2.1 ((wrap64 ((t314.length : Int) + (t315.length : Int))) != (t302.length : Int))) else (laws_FnTimers.j1 kj2 t315 t329 bt335.2.1 true)) else (laws_FnTimers.j1 kj2 t315 t329 bt335.2.1 true))) else (laws_FnTimers.j1 kj2 t315 t329 bt335.2.1 true)) else (laws_FnTimers.j1 kj2 t315 t329 bt335.2.1 true)) else (laws_FnTimers.j1 kj2 t315 t329 bt335.2.1 true)) else (laws_FnTimers.j1 kj2 t315 t329 bt335.2.1 true))) else (laws_FnTimers.j1 kj2 t315 t329 bt335.2.1 true))) else (laws_FnTimers.j1 kj2 t315 t329 bt335.2.1 true)) else (laws_FnTimers.j1 kj2 t315 t329 bt335.2.1 true)) else (laws_FnTimers.j1 kj2 t315 t329 bt335.2.1 true)) else (laws_FnTimers.j1 kj2 t315 t329 bt335.2.1 true))) else (laws_FnTimers.j1 kj2 t315 t329 bt335.2.1 true))))) = some r := H
    have A13 := Aside0.mk A130
    clear A130
    replace H := Option.bind_eq_some_iff.mp H
    obtain ⟨⟨t335, t336, t337⟩, A140, H⟩ := H
    replace H : ((impl_TimerDrop.f kj2 t302 9).bind fun bt342 => ((impl_TimerDrop.f kj2 bt342.1 9).bind fun bt346 => (if t305 = 0 then ((laws_sameTimers.f kj2 t302 t306).bind fun t350 => (if t350 = true then (if t313 = 0 then (if (t310.length : Int) = (t302.length : Int) then (if t316 = 0 then ((laws_sameTimers.f kj2 t314 t321).bind fun t351 => (if t351 = true then ((laws_sameInts.f kj2 t315 t322).bind fun t352 => (if t352 = true then (if t330 = 0 then (if t337 = 0 then (if bt342.2 = 0 then ((laws_sameTimers.f kj2 bt342.1 t297).bind fun t353 => (if t353 = true then (if bt346.2 = 5 then (laws_FnTimers.j1 kj2 t315 t329 t336 ((wrap64 ((t314.length : Int) + (t315.length : Int))) != (t302.length : Int))) else (laws_FnTimers.j1 kj2 t315 t329 t336 true)) else (laws_FnTimers.j1 kj2 t315 t329 t336 true))) else (laws_FnTimers.j1 kj2 t315 t329 t336 true)) else (laws_FnTimers.j1 kj2 t315 t329 t336 true)) else (laws_FnTimers.j1 kj2 t315 t329 t336 true)) else (laws_FnTimers.j1 kj2 t315 t329 t336 true))) else (laws_FnTimers.j1 kj2 t315 t329 t336 true))) else (laws_FnTimers.j1 kj2 t315 t329 t336 true)) else (laws_FnTimers.j1 kj2 t315 t329 t336 true)) else (laws_FnTimers.j1 kj2 t315 t329 t336 true)) else (laws_FnTimers.j1 kj2 t315 t329 t336 true))) else (laws_FnTimers.j1 kj2 t315 t329 t336 true)))) = some r := H
    have A14 := Aside0.mk A140
    clear A140
    replace H := Option.bind_eq_some_iff.mp H
    obtain ⟨⟨t342, t343⟩, A150, H⟩ := H
    replace H : ((impl_TimerDrop.f kj2 t342 9).bind fun bt346 => (if t305 = 0 then ((laws_sameTimers.f kj2 t302 t306).bind fun t350 => (if t350 = true then (if t313 = 0 then (if (t310.length : Int) = (t302.length : Int) then (if t316 = 0 then ((laws_sameTimers.f kj2 t314 t321).bind fun t351 => (if t351 = true then ((laws_sameInts.f kj2 t315 t322).bind fun t352 => (if t352 = true then (if t330 = 0 then (if t337 = 0 then (if t343 = 0 then ((laws_sameTimers.f kj2 t342 t297).bind fun t353 => (if t353 = true then (if bt346.2 = 5 then (laws_FnTimers.j1 kj2 t315 t329 t336 ((wrap64 ((t314.length : Int) + (t315.length : Int))) != (t302.length : Int))) else (laws_FnTimers.j1 kj2 t315 t329 t336 true)) else (laws_FnTimers.j1 kj2 t315 t329 t336 true))) else (laws_FnTimers.j1 kj2 t315 t329 t336 true)) else (laws_FnTimers.j1 kj2 t315 t329 t336 true)) else (laws_FnTimers.j1 kj2 t315 t329 t336 true)) else (laws_FnTimers.j1 kj2 t315 t329 t336 true))) else (laws_FnTimers.j1 kj2 t315 t329 t336 true))) else (laws_FnTimers.j1 kj2 t315 t329 t336 true)) else (laws_FnTimers.j1 kj2 t315 t329 t336 true)) else (laws_FnTimers.j1 kj2 t315 t329 t336 true)) else (laws_FnTimers.j1 kj2 t315 t329 t336 true))) else (laws_FnTimers.j1 kj2 t315 t329 t336 true))) = some r := H
    have A15 := Aside0.mk A150
    clear A150
    replace H := Option.bind_eq_some_iff.mp H
    obtain ⟨⟨t346, t347⟩, A160, H⟩ := H
    replace H : (if t305 = 0 then ((laws_sameTimers.f kj2 t302 t306).bind fun t350 => (if t350 = true then (if t313 = 0 then (if (t310.length : Int) = (t302.length : Int) then (if t316 = 0 then ((laws_sameTimers.f kj2 t314 t321).bind fun t351 => (if t351 = true then ((laws_sameInts.f kj2 t315 t322).bind fun t352 => (if t352 = true then (if t330 = 0 then (if t337 = 0 then (if t343 = 0 then ((laws_sameTimers.f kj2 t342 t297).bind fun t353 => (if t353 = true then (if t347 = 5 then (laws_FnTimers.j1 kj2 t315 t329 t336 ((wrap64 ((t314.length : Int) + (t315.length : Int))) != (t302.length : Int))) else (laws_FnTimers.j1 kj2 t315 t329 t336 true)) else (laws_FnTimers.j1 kj2 t315 t329 t336 true))) else (laws_FnTimers.j1 kj2 t315 t329 t336 true)) else (laws_FnTimers.j1 kj2 t315 t329 t336 true)) else (laws_FnTimers.j1 kj2 t315 t329 t336 true)) else (laws_FnTimers.j1 kj2 t315 t329 t336 true))) else (laws_FnTimers.j1 kj2 t315 t329 t336 true))) else (laws_FnTimers.j1 kj2 t315 t329 t336 true)) else (laws_FnTimers.j1 kj2 t315 t329 t336 true)) else (laws_FnTimers.j1 kj2 t315 t329 t336 true)) else (laws_FnTimers.j1 kj2 t315 t329 t336 true))) else (laws_FnTimers.j1 kj2 t315 t329 t336 true)) = some r := H
    have A16 := Aside0.mk A160
    clear A160
    have HC17 := Aside0.mk H
    clear H
    go_upto_region 14 with (first | ((with_reducible refine gate_callee (f := 7) rfl ?_); refine goesL_ (some 42) rfl rfl Try.func7 (by kernel_rfl) rfl #[.slice A0 l0.length c0] rfl (by (try simp only [List.map_toArray, List.map_cons, List.map_nil]); first | done | rfl | (simp only [List.length_drop, List.length_take]; rfl)) ?_; (with_reducible refine (spec_TimersOf.calls kj2 _ _ l0 t297 _ ?side1 ?side2 A6.out).mono ?_); (case side1 => repeat (first | exact (Kd.C_below HR0.out HB.out) | (with_reducible refine Kd.C_alloc ?_ _) | (with_reducible refine Kd.C_drewN ?_ _) | (with_reducible refine Kd.C_drew ?_))); (case side2 => exact HC0.out); rintro e w18 ⟨v298, rfl, ho0, hb⟩; refine ⟨_, rfl, ?_⟩; have n0_ := Aside0.mk (Kd.R_lower ho0 (below_size (by repeat (first | (with_reducible first | exact HB.out | apply below_alloc | apply pw_below_drewN | apply below_drew1) | exact HB.out)))); have n1_ := Aside0.mk (below_step (by repeat (first | (with_reducible first | exact HB.out | apply below_alloc | apply pw_below_drewN | apply below_drew1) | exact HB.out)) hb); clear HB; have HO299 := n0_; have HB := n1_; clear n0_ n1_; (try clear hb); (try clear hb2); (try clear hk); (try clear hi); (try clear ho0)) | ((with_reducible refine gate_callee (f := 8) rfl ?_); refine goesL_ (some 44) rfl rfl Try.func8 (by kernel_rfl) rfl #[.slice A1 l1.length c1, .int .i64 0, .int .i64 20] rfl (by (try simp only [List.map_toArray, List.map_cons, List.map_nil]); first | done | rfl | (simp only [List.length_drop, List.length_take]; rfl)) ?_; (with_reducible refine (laws_at.calls _ _ l1 0 20 t300 _ ?side1 ?side2 A7.out).mono ?_); (case side1 => repeat (first | exact (Kd.C_below HR1.out HB.out) | (with_reducible refine Kd.C_alloc ?_ _) | (with_reducible refine Kd.C_drewN ?_ _) | (with_reducible refine Kd.C_drew ?_))); (case side2 => exact HC1.out); rintro e w' ⟨rfl, ⟨nd, rfl⟩⟩; refine ⟨_, rfl, ?_⟩; (try (rw [drewN_self w18]; generalize hq_ : World.drewN w18 _ = w18; have n0_ : Aside0 (Kd.R k27 27 w18 w.heap.size (fun _ => True) v298 t297) := ⟨by rw [← hq_]; exact (by (with_reducible repeat (first | apply Kd.R_alloc | apply Kd.R_drewN | apply Kd.R_drew)); exact HO299.out)⟩; have n1_ : Aside0 (Below w.heap.size w w18) := ⟨by rw [← hq_]; exact (by repeat (first | (with_reducible first | exact HB.out | apply below_alloc | apply pw_below_drewN | apply below_drew1) | exact HB.out))⟩; clear HO299 HB hq_; have HO299 := n0_; have HB := n1_; clear n0_ n1_))) | ((with_reducible refine gate_dst (N := 6) rfl ?_); (try (refine gate_guard (by rfl) ?_; dsimp only)); refine box_event ?hg (N := 6) ?hd (cs := #[.int .i64 0, .int .i64 0]) (t := 27) ?hr ?_; (case hd => rfl); (case hg => rfl); (case hr => first | (go_simp; done) | (go_simp; rfl)); intro gb301 hg w19 hbox hb; have n0_ := Aside0.mk (Kd.R_below (Kd.R_elderB (by (with_reducible repeat (first | apply Kd.R_alloc | apply Kd.R_drewN | apply Kd.R_drew)); exact HO299.out) gb301 (Nat.le_of_eq hg.symm)) hb); have n1_ := Aside0.mk (below_step (by repeat (first | (with_reducible first | exact HB.out | apply below_alloc | apply pw_below_drewN | apply below_drew1) | exact HB.out)) hb); have n2_ := Aside0.mk (hbox); have n3_ := Aside0.mk ((by rw [hg]; exact (below_size (by repeat (first | (with_reducible first | exact HB.out | apply below_alloc | apply pw_below_drewN | apply below_drew1) | exact HB.out))) : w.heap.size ≤ gb301)); have n4_ := Aside0.mk ((by rw [hg]; exact (below_size (by repeat (first | (with_reducible first | exact HB.out | apply below_alloc | apply pw_below_drewN | apply below_drew1) | exact HB.out))) : w.heap.size ≤ gb301)); clear HO299; clear HB; have HO299 := n0_; have HB := n1_; have BK301 := n2_; have GW301 := n3_; have GE301 := n4_; clear n0_ n1_ n2_ n3_ n4_; clear hb hbox hg; have hcz20_0 : w19.cell? ⟨gb301, 0, none⟩ = some (.int .i64 0) := (blk_cell BK301.out 0).trans rfl; have hcz20_1 : w19.cell? ⟨gb301, 1, none⟩ = some (.int .i64 0) := (blk_cell BK301.out 1).trans rfl; have hfz20_0 := blk_frozen BK301.out 0; have hfz20_1 := blk_frozen BK301.out 1; obtain ⟨Ao21, co21, eo21⟩ := Kd.R_slice HO299.out; subst eo21) | ((with_reducible refine gate_callee (f := 9) rfl ?_); refine goesL_ (some 49) rfl rfl Try.func9 (by kernel_rfl) rfl #[.slice Ao21 t297.length co21, .agg #[.int .i64 t300, .int .i64 9]] rfl (by (try simp only [List.map_toArray, List.map_cons, List.map_nil]); first | done | rfl | (simp only [List.length_drop, List.length_take]; rfl)) ?_; (with_reducible refine (impl_TimerPut.calls kj2 _ _ t297 t300 9 t302 t305 _ ?side1 ?side2 A8.out).mono ?_); (case side1 => refine (Kd.R_reads' (e := 27) (base := w.heap.size) (ok := fun k_ => (True ∧ k_ ≠ gb301)) (n := t297.length) (c := co21) ?_).2.2; exact (by (with_reducible repeat (first | apply Kd.R_alloc | apply Kd.R_drewN | apply Kd.R_drew)); exact (Kd.R_mono (Kd.R_far (p := ⟨gb301, 1, none⟩) (Kd.R_far (p := ⟨gb301, 0, none⟩) (Kd.R_mono HO299.out (fun k_ hk => (⟨hk, hk.2⟩ : _ ∧ k_ ≠ gb301))) (fun _ hk => by first | trivial | exact hk.2 | exact hk.2 | exact hk.1 | exact hk | exact hk.1.2 | exact hk.1.1 | exact hk.2.1 | exact hk.2.2) (.int .i64 t300)) (fun _ hk => by first | trivial | exact hk.2 | exact hk.2 | exact hk.1 | exact hk | exact hk.1.2 | exact hk.1.1 | exact hk.2.1 | exact hk.2.2) (.int .i64 9)) (fun _ h_ => h_.1)))); (case side2 => exact (Kd.R_reads' HO299.out).2.1); rintro e w22 ⟨v303, rfl, ho0, hb⟩; refine ⟨_, rfl, ?_⟩; have n0_ := Aside0.mk (Kd.R_elder' (by (with_reducible repeat (first | apply Kd.R_alloc | apply Kd.R_drewN | apply Kd.R_drew)); exact (Kd.R_mono (Kd.R_far (p := ⟨gb301, 1, none⟩) (Kd.R_far (p := ⟨gb301, 0, none⟩) (Kd.R_mono HO299.out (fun k_ hk => (⟨hk, hk.2⟩ : _ ∧ k_ ≠ gb301))) (fun _ hk => by first | trivial | exact hk.2 | exact hk.2 | exact hk.1 | exact hk | exact hk.1.2 | exact hk.1.1 | exact hk.2.1 | exact hk.2.2) (.int .i64 t300)) (fun _ hk => by first | trivial | exact hk.2 | exact hk.2 | exact hk.1 | exact hk | exact hk.1.2 | exact hk.1.1 | exact hk.2.1 | exact hk.2.2) (.int .i64 9)) (fun _ h_ => h_.1))) (Kd.R_base ho0) hb); have n1_ := Aside0.mk (Kd.R_lower (Kd.R_newB (Kd.R_new' ho0 (Kd.R_lt (by (with_reducible repeat (first | apply Kd.R_alloc | apply Kd.R_drewN | apply Kd.R_drew)); exact (Kd.R_mono (Kd.R_far (p := ⟨gb301, 1, none⟩) (Kd.R_far (p := ⟨gb301, 0, none⟩) (Kd.R_mono HO299.out (fun k_ hk => (⟨hk, hk.2⟩ : _ ∧ k_ ≠ gb301))) (fun _ hk => by first | trivial | exact hk.2 | exact hk.2 | exact hk.1 | exact hk | exact hk.1.2 | exact hk.1.1 | exact hk.2.1 | exact hk.2.2) (.int .i64 t300)) (fun _ hk => by first | trivial | exact hk.2 | exact hk.2 | exact hk.1 | exact hk | exact hk.1.2 | exact hk.1.1 | exact hk.2.1 | exact hk.2.2) (.int .i64 9)) (fun _ h_ => h_.1))))) (g := gb301) (o := .cells #[.int .i64 t300, .int .i64 9] 27 (0, 0)) (by (with_reducible repeat (first | refine blk_drewN ?_ _ | refine blk_drew ?_ | refine blk_alloc ?_ _)); refine blk_put (cs := #[.int .i64 t300, .int .i64 0]) ?_ 1 _ rfl; (with_reducible repeat (first | refine blk_drewN ?_ _ | refine blk_drew ?_ | refine blk_alloc ?_ _)); refine blk_put (cs := #[.int .i64 0, .int .i64 0]) ?_ 0 _ rfl; (with_reducible repeat (first | refine blk_drewN ?_ _ | refine blk_drew ?_ | refine blk_alloc ?_ _)); exact BK301.out)) (below_size (by repeat (first | (with_reducible first | exact HB.out | apply below_alloc | apply pw_below_drewN | apply below_drew1 | refine below_set ?_ GE301.out) | exact HB.out)))); have n2_ := Aside0.mk (blk_below (g := gb301) (o := .cells #[.int .i64 t300, .int .i64 9] 27 (0, 0)) (by (with_reducible repeat (first | refine blk_drewN ?_ _ | refine blk_drew ?_ | refine blk_alloc ?_ _)); refine blk_put (cs := #[.int .i64 t300, .int .i64 0]) ?_ 1 _ rfl; (with_reducible repeat (first | refine blk_drewN ?_ _ | refine blk_drew ?_ | refine blk_alloc ?_ _)); refine blk_put (cs := #[.int .i64 0, .int .i64 0]) ?_ 0 _ rfl; (with_reducible repeat (first | refine blk_drewN ?_ _ | refine blk_drew ?_ | refine blk_alloc ?_ _)); exact BK301.out) hb); have n3_ := Aside0.mk (below_step (by repeat (first | (with_reducible first | exact HB.out | apply below_alloc | apply pw_below_drewN | apply below_drew1 | refine below_set ?_ GE301.out) | exact HB.out)) hb); clear HO299; clear BK301; clear HB; have HO299 := n0_; have HO304 := n1_; have BK301 := n2_; have HB := n3_; clear n0_ n1_ n2_ n3_; (try clear hb); (try clear hb2); (try clear hk); (try clear hi); (try clear ho0); have hcz23_0 : w22.cell? ⟨gb301, 0, none⟩ = some (.int .i64 t300) := (blk_cell BK301.out 0).trans rfl; have hcz23_1 : w22.cell? ⟨gb301, 1, none⟩ = some (.int .i64 9) := (blk_cell BK301.out 1).trans rfl; have hfz23_0 := blk_frozen BK301.out 0; have hfz23_1 := blk_frozen BK301.out 1) | ((with_reducible refine gate_callee (f := 10) rfl ?_); refine goesL_ (some 55) rfl rfl Try.func10 (by kernel_rfl) rfl #[.slice Ao21 t297.length co21, .agg #[.int .i64 t300, .int .i64 9]] rfl (by (try simp only [List.map_toArray, List.map_cons, List.map_nil]); first | done | rfl | (simp only [List.length_drop, List.length_take]; rfl)) ?_; (with_reducible refine (spec_TimerPut.calls kj2 _ _ t297 t300 9 t306 t309 _ ?side1 ?side2 A9.out).mono ?_); (case side1 => repeat (first | exact (Kd.R_reads' HO299.out).2.2 | (with_reducible refine Kd.C_alloc ?_ _) | (with_reducible refine Kd.C_drewN ?_ _) | (with_reducible refine Kd.C_drew ?_))); (case side2 => exact (Kd.R_reads' HO299.out).2.1); rintro e w24 ⟨v307, rfl, ho0, hb⟩; refine ⟨_, rfl, ?_⟩; have n0_ := Aside0.mk (Kd.R_elder' (by (with_reducible repeat (first | apply Kd.R_alloc | apply Kd.R_drewN | apply Kd.R_drew)); exact HO299.out) (Kd.R_base ho0) hb); have n1_ := Aside0.mk (Kd.R_elder' (by (with_reducible repeat (first | apply Kd.R_alloc | apply Kd.R_drewN | apply Kd.R_drew)); exact HO304.out) (Kd.R_base ho0) hb); have n2_ := Aside0.mk (Kd.R_lower (Kd.R_newB (Kd.R_new' (Kd.R_new' ho0 (Kd.R_lt (by (with_reducible repeat (first | apply Kd.R_alloc | apply Kd.R_drewN | apply Kd.R_drew)); exact HO299.out))) (Kd.R_lt (by (with_reducible repeat (first | apply Kd.R_alloc | apply Kd.R_drewN | apply Kd.R_drew)); exact HO304.out))) (g := gb301) (o := .cells #[.int .i64 t300, .int .i64 9] 27 (0, 0)) (by (with_reducible repeat (first | refine blk_drewN ?_ _ | refine blk_drew ?_ | refine blk_alloc ?_ _)); exact BK301.out)) (below_size (by repeat (first | (with_reducible first | exact HB.out | apply below_alloc | apply pw_below_drewN | apply below_drew1 | refine below_set ?_ GE301.out) | exact HB.out)))); have n3_ := Aside0.mk (blk_below (g := gb301) (o := .cells #[.int .i64 t300, .int .i64 9] 27 (0, 0)) (by (with_reducible repeat (first | refine blk_drewN ?_ _ | refine blk_drew ?_ | refine blk_alloc ?_ _)); exact BK301.out) hb); have n4_ := Aside0.mk (below_step (by repeat (first | (with_reducible first | exact HB.out | apply below_alloc | apply pw_below_drewN | apply below_drew1 | refine below_set ?_ GE301.out) | exact HB.out)) hb); clear HO299; clear HO304; clear BK301; clear HB; have HO299 := n0_; have HO304 := n1_; have HO308 := n2_; have BK301 := n3_; have HB := n4_; clear n0_ n1_ n2_ n3_ n4_; (try clear hb); (try clear hb2); (try clear hk); (try clear hi); (try clear ho0); have hcz25_0 : w24.cell? ⟨gb301, 0, none⟩ = some (.int .i64 t300) := (blk_cell BK301.out 0).trans rfl; have hcz25_1 : w24.cell? ⟨gb301, 1, none⟩ = some (.int .i64 9) := (blk_cell BK301.out 1).trans rfl; have hfz25_0 := blk_frozen BK301.out 0; have hfz25_1 := blk_frozen BK301.out 1; obtain ⟨Ao26, co26, eo26⟩ := Kd.R_slice HO304.out; subst eo26) | ((with_reducible refine gate_callee (f := 9) rfl ?_); refine goesL_ (some 64) rfl rfl Try.func9 (by kernel_rfl) rfl #[.slice Ao26 t302.length co26, .agg #[.int .i64 (wrap64 (t300 + 5)), .int .i64 9]] rfl (by (try simp only [List.map_toArray, List.map_cons, List.map_nil]); first | done | rfl | (simp only [List.length_drop, List.length_take]; rfl)) ?_; (with_reducible refine (impl_TimerPut.calls kj2 _ _ t302 (wrap64 (t300 + 5)) 9 t310 t313 _ ?side1 ?side2 A10.out).mono ?_); (case side1 => repeat (first | exact (Kd.R_reads' HO304.out).2.2 | (with_reducible refine Kd.C_alloc ?_ _) | (with_reducible refine Kd.C_drewN ?_ _) | (with_reducible refine Kd.C_drew ?_))); (case side2 => exact (Kd.R_reads' HO304.out).2.1); rintro e w27 ⟨v311, rfl, ho0, hb⟩; refine ⟨_, rfl, ?_⟩; have n0_ := Aside0.mk (Kd.R_elder' (by (with_reducible repeat (first | apply Kd.R_alloc | apply Kd.R_drewN | apply Kd.R_drew)); exact HO299.out) (Kd.R_base ho0) hb); have n1_ := Aside0.mk (Kd.R_elder' (by (with_reducible repeat (first | apply Kd.R_alloc | apply Kd.R_drewN | apply Kd.R_drew)); exact HO304.out) (Kd.R_base ho0) hb); have n2_ := Aside0.mk (Kd.R_elder' (by (with_reducible repeat (first | apply Kd.R_alloc | apply Kd.R_drewN | apply Kd.R_drew)); exact HO308.out) (Kd.R_base ho0) hb); have n3_ := Aside0.mk (Kd.R_lower (Kd.R_newB (Kd.R_new' (Kd.R_new' (Kd.R_new' ho0 (Kd.R_lt (by (with_reducible repeat (first | apply Kd.R_alloc | apply Kd.R_drewN | apply Kd.R_drew)); exact HO299.out))) (Kd.R_lt (by (with_reducible repeat (first | apply Kd.R_alloc | apply Kd.R_drewN | apply Kd.R_drew)); exact HO304.out))) (Kd.R_lt (by (with_reducible repeat (first | apply Kd.R_alloc | apply Kd.R_drewN | apply Kd.R_drew)); exact HO308.out))) (g := gb301) (o := .cells #[.int .i64 t300, .int .i64 9] 27 (0, 0)) (by (with_reducible repeat (first | refine blk_drewN ?_ _ | refine blk_drew ?_ | refine blk_alloc ?_ _)); exact BK301.out)) (below_size (by repeat (first | (with_reducible first | exact HB.out | apply below_alloc | apply pw_below_drewN | apply below_drew1 | refine below_set ?_ GE301.out) | exact HB.out)))); have n4_ := Aside0.mk (blk_below (g := gb301) (o := .cells #[.int .i64 t300, .int .i64 9] 27 (0, 0)) (by (with_reducible repeat (first | refine blk_drewN ?_ _ | refine blk_drew ?_ | refine blk_alloc ?_ _)); exact BK301.out) hb); have n5_ := Aside0.mk (below_step (by repeat (first | (with_reducible first | exact HB.out | apply below_alloc | apply pw_below_drewN | apply below_drew1 | refine below_set ?_ GE301.out) | exact HB.out)) hb); clear HO299; clear HO304; clear HO308; clear BK301; clear HB; have HO299 := n0_; have HO304 := n1_; have HO308 := n2_; have HO312 := n3_; have BK301 := n4_; have HB := n5_; clear n0_ n1_ n2_ n3_ n4_ n5_; (try clear hb); (try clear hb2); (try clear hk); (try clear hi); (try clear ho0); have hcz28_0 : w27.cell? ⟨gb301, 0, none⟩ = some (.int .i64 t300) := (blk_cell BK301.out 0).trans rfl; have hcz28_1 : w27.cell? ⟨gb301, 1, none⟩ = some (.int .i64 9) := (blk_cell BK301.out 1).trans rfl; have hfz28_0 := blk_frozen BK301.out 0; have hfz28_1 := blk_frozen BK301.out 1) | ((with_reducible refine gate_callee (f := 11) rfl ?_); refine goesL_ (some 71) rfl rfl Try.func11 (by kernel_rfl) rfl #[.slice Ao26 t302.length co26, .int .i64 t300] rfl (by (try simp only [List.map_toArray, List.map_cons, List.map_nil]); first | done | rfl | (simp only [List.length_drop, List.length_take]; rfl)) ?_; (with_reducible refine (impl_TimersDue.calls kj2 _ _ t302 t300 t314 t315 t316 _ ?side1 ?side2 A11.out).mono ?_); (case side1 => repeat (first | exact (Kd.R_reads' HO304.out).2.2 | (with_reducible refine Kd.C_alloc ?_ _) | (with_reducible refine Kd.C_drewN ?_ _) | (with_reducible refine Kd.C_drew ?_))); (case side2 => exact (Kd.R_reads' HO304.out).2.1); rintro e w29 ⟨v317, v319, rfl, ho0, ho1, hb⟩; refine ⟨_, rfl, ?_⟩; have n0_ := Aside0.mk (Kd.R_elder' (by (with_reducible repeat (first | apply Kd.R_alloc | apply Kd.R_drewN | apply Kd.R_drew)); exact HO299.out) (Kd.R_base ho0) hb); have n1_ := Aside0.mk (Kd.R_elder' (by (with_reducible repeat (first | apply Kd.R_alloc | apply Kd.R_drewN | apply Kd.R_drew)); exact HO304.out) (Kd.R_base ho0) hb); have n2_ := Aside0.mk (Kd.R_elder' (by (with_reducible repeat (first | apply Kd.R_alloc | apply Kd.R_drewN | apply Kd.R_drew)); exact HO308.out) (Kd.R_base ho0) hb); have n3_ := Aside0.mk (Kd.R_elder' (by (with_reducible repeat (first | apply Kd.R_alloc | apply Kd.R_drewN | apply Kd.R_drew)); exact HO312.out) (Kd.R_base ho0) hb); have n4_ := Aside0.mk (Kd.R_lower (Kd.R_newB (Kd.R_new' (Kd.R_new' (Kd.R_new' (Kd.R_new' ho0 (Kd.R_lt (by (with_reducible repeat (first | apply Kd.R_alloc | apply Kd.R_drewN | apply Kd.R_drew)); exact HO299.out))) (Kd.R_lt (by (with_reducible repeat (first | apply Kd.R_alloc | apply Kd.R_drewN | apply Kd.R_drew)); exact HO304.out))) (Kd.R_lt (by (with_reducible repeat (first | apply Kd.R_alloc | apply Kd.R_drewN | apply Kd.R_drew)); exact HO308.out))) (Kd.R_lt (by (with_reducible repeat (first | apply Kd.R_alloc | apply Kd.R_drewN | apply Kd.R_drew)); exact HO312.out))) (g := gb301) (o := .cells #[.int .i64 t300, .int .i64 9] 27 (0, 0)) (by (with_reducible repeat (first | refine blk_drewN ?_ _ | refine blk_drew ?_ | refine blk_alloc ?_ _)); exact BK301.out)) (below_size (by repeat (first | (with_reducible first | exact HB.out | apply below_alloc | apply pw_below_drewN | apply below_drew1 | refine below_set ?_ GE301.out) | exact HB.out)))); have n5_ := Aside0.mk (Kd.R_lower ho1 (below_size (by repeat (first | (with_reducible first | exact HB.out | apply below_alloc | apply pw_below_drewN | apply below_drew1 | refine below_set ?_ GE301.out) | exact HB.out)))); have n6_ := Aside0.mk (blk_below (g := gb301) (o := .cells #[.int .i64 t300, .int .i64 9] 27 (0, 0)) (by (with_reducible repeat (first | refine blk_drewN ?_ _ | refine blk_drew ?_ | refine blk_alloc ?_ _)); exact BK301.out) hb); have n7_ := Aside0.mk (below_step (by repeat (first | (with_reducible first | exact HB.out | apply below_alloc | apply pw_below_drewN | apply below_drew1 | refine below_set ?_ GE301.out) | exact HB.out)) hb); clear HO299; clear HO304; clear HO308; clear HO312; clear BK301; clear HB; have HO299 := n0_; have HO304 := n1_; have HO308 := n2_; have HO312 := n3_; have HO318 := n4_; have HO320 := n5_; have BK301 := n6_; have HB := n7_; clear n0_ n1_ n2_ n3_ n4_ n5_ n6_ n7_; (try clear hb); (try clear hb2); (try clear hk); (try clear hi); (try clear ho0); (try clear ho1); have hcz30_0 : w29.cell? ⟨gb301, 0, none⟩ = some (.int .i64 t300) := (blk_cell BK301.out 0).trans rfl; have hcz30_1 : w29.cell? ⟨gb301, 1, none⟩ = some (.int .i64 9) := (blk_cell BK301.out 1).trans rfl; have hfz30_0 := blk_frozen BK301.out 0; have hfz30_1 := blk_frozen BK301.out 1) | ((with_reducible refine gate_callee (f := 12) rfl ?_); refine goesL_ (some 79) rfl rfl Try.func12 (by kernel_rfl) rfl #[.slice Ao26 t302.length co26, .int .i64 t300] rfl (by (try simp only [List.map_toArray, List.map_cons, List.map_nil]); first | done | rfl | (simp only [List.length_drop, List.length_take]; rfl)) ?_; (with_reducible refine (spec_TimersDue.calls kj2 _ _ t302 t300 t321 t322 t323 _ ?side1 ?side2 A12.out).mono ?_); (case side1 => repeat (first | exact (Kd.R_reads' HO304.out).2.2 | (with_reducible refine Kd.C_alloc ?_ _) | (with_reducible refine Kd.C_drewN ?_ _) | (with_reducible refine Kd.C_drew ?_))); (case side2 => exact (Kd.R_reads' HO304.out).2.1); rintro e w31 ⟨v324, v326, rfl, ho0, ho1, hb⟩; refine ⟨_, rfl, ?_⟩; have n0_ := Aside0.mk (Kd.R_elder' (by (with_reducible repeat (first | apply Kd.R_alloc | apply Kd.R_drewN | apply Kd.R_drew)); exact HO299.out) (Kd.R_base ho0) hb); have n1_ := Aside0.mk (Kd.R_elder' (by (with_reducible repeat (first | apply Kd.R_alloc | apply Kd.R_drewN | apply Kd.R_drew)); exact HO304.out) (Kd.R_base ho0) hb); have n2_ := Aside0.mk (Kd.R_elder' (by (with_reducible repeat (first | apply Kd.R_alloc | apply Kd.R_drewN | apply Kd.R_drew)); exact HO308.out) (Kd.R_base ho0) hb); have n3_ := Aside0.mk (Kd.R_elder' (by (with_reducible repeat (first | apply Kd.R_alloc | apply Kd.R_drewN | apply Kd.R_drew)); exact HO312.out) (Kd.R_base ho0) hb); have n4_ := Aside0.mk (Kd.R_elder' (by (with_reducible repeat (first | apply Kd.R_alloc | apply Kd.R_drewN | apply Kd.R_drew)); exact HO318.out) (Kd.R_base ho0) hb); have n5_ := Aside0.mk (Kd.R_elder' (by (with_reducible repeat (first | apply Kd.R_alloc | apply Kd.R_drewN | apply Kd.R_drew)); exact HO320.out) (Kd.R_base ho1) hb); have n6_ := Aside0.mk (Kd.R_lower (Kd.R_newB (Kd.R_new' (Kd.R_new' (Kd.R_new' (Kd.R_new' (Kd.R_new' ho0 (Kd.R_lt (by (with_reducible repeat (first | apply Kd.R_alloc | apply Kd.R_drewN | apply Kd.R_drew)); exact HO299.out))) (Kd.R_lt (by (with_reducible repeat (first | apply Kd.R_alloc | apply Kd.R_drewN | apply Kd.R_drew)); exact HO304.out))) (Kd.R_lt (by (with_reducible repeat (first | apply Kd.R_alloc | apply Kd.R_drewN | apply Kd.R_drew)); exact HO308.out))) (Kd.R_lt (by (with_reducible repeat (first | apply Kd.R_alloc | apply Kd.R_drewN | apply Kd.R_drew)); exact HO312.out))) (Kd.R_lt (by (with_reducible repeat (first | apply Kd.R_alloc | apply Kd.R_drewN | apply Kd.R_drew)); exact HO318.out))) (g := gb301) (o := .cells #[.int .i64 t300, .int .i64 9] 27 (0, 0)) (by (with_reducible repeat (first | refine blk_drewN ?_ _ | refine blk_drew ?_ | refine blk_alloc ?_ _)); exact BK301.out)) (below_size (by repeat (first | (with_reducible first | exact HB.out | apply below_alloc | apply pw_below_drewN | apply below_drew1 | refine below_set ?_ GE301.out) | exact HB.out)))); have n7_ := Aside0.mk (Kd.R_lower (Kd.R_new' ho1 (Kd.R_lt (by (with_reducible repeat (first | apply Kd.R_alloc | apply Kd.R_drewN | apply Kd.R_drew)); exact HO320.out))) (below_size (by repeat (first | (with_reducible first | exact HB.out | apply below_alloc | apply pw_below_drewN | apply below_drew1 | refine below_set ?_ GE301.out) | exact HB.out)))); have n8_ := Aside0.mk (blk_below (g := gb301) (o := .cells #[.int .i64 t300, .int .i64 9] 27 (0, 0)) (by (with_reducible repeat (first | refine blk_drewN ?_ _ | refine blk_drew ?_ | refine blk_alloc ?_ _)); exact BK301.out) hb); have n9_ := Aside0.mk (below_step (by repeat (first | (with_reducible first | exact HB.out | apply below_alloc | apply pw_below_drewN | apply below_drew1 | refine below_set ?_ GE301.out) | exact HB.out)) hb); clear HO299; clear HO304; clear HO308; clear HO312; clear HO318; clear HO320; clear BK301; clear HB; have HO299 := n0_; have HO304 := n1_; have HO308 := n2_; have HO312 := n3_; have HO318 := n4_; have HO320 := n5_; have HO325 := n6_; have HO327 := n7_; have BK301 := n8_; have HB := n9_; clear n0_ n1_ n2_ n3_ n4_ n5_ n6_ n7_ n8_ n9_; (try clear hb); (try clear hb2); (try clear hk); (try clear hi); (try clear ho0); (try clear ho1); have hcz32_0 : w31.cell? ⟨gb301, 0, none⟩ = some (.int .i64 t300) := (blk_cell BK301.out 0).trans rfl; have hcz32_1 : w31.cell? ⟨gb301, 1, none⟩ = some (.int .i64 9) := (blk_cell BK301.out 1).trans rfl; have hfz32_0 := blk_frozen BK301.out 0; have hfz32_1 := blk_frozen BK301.out 1) | ((with_reducible refine gate_callee (f := 11) rfl ?_); refine goesL_ (some 88) rfl rfl Try.func11 (by kernel_rfl) rfl #[.slice Ao26 t302.length co26, .int .i64 (wrap64 (t300 - 1))] rfl (by (try simp only [List.map_toArray, List.map_cons, List.map_nil]); first | done | rfl | (simp only [List.length_drop, List.length_take]; rfl)) ?_; (with_reducible refine (impl_TimersDue.calls kj2 _ _ t302 (wrap64 (t300 - 1)) t328 t329 t330 _ ?side1 ?side2 A13.out).mono ?_); (case side1 => repeat (first | exact (Kd.R_reads' HO304.out).2.2 | (with_reducible refine Kd.C_alloc ?_ _) | (with_reducible refine Kd.C_drewN ?_ _) | (with_reducible refine Kd.C_drew ?_))); (case side2 => exact (Kd.R_reads' HO304.out).2.1); rintro e w33 ⟨v331, v333, rfl, ho0, ho1, hb⟩; refine ⟨_, rfl, ?_⟩; have n0_ := Aside0.mk (Kd.R_elder' (by (with_reducible repeat (first | apply Kd.R_alloc | apply Kd.R_drewN | apply Kd.R_drew)); exact HO299.out) (Kd.R_base ho0) hb); have n1_ := Aside0.mk (Kd.R_elder' (by (with_reducible repeat (first | apply Kd.R_alloc | apply Kd.R_drewN | apply Kd.R_drew)); exact HO304.out) (Kd.R_base ho0) hb); have n2_ := Aside0.mk (Kd.R_elder' (by (with_reducible repeat (first | apply Kd.R_alloc | apply Kd.R_drewN | apply Kd.R_drew)); exact HO308.out) (Kd.R_base ho0) hb); have n3_ := Aside0.mk (Kd.R_elder' (by (with_reducible repeat (first | apply Kd.R_alloc | apply Kd.R_drewN | apply Kd.R_drew)); exact HO312.out) (Kd.R_base ho0) hb); have n4_ := Aside0.mk (Kd.R_elder' (by (with_reducible repeat (first | apply Kd.R_alloc | apply Kd.R_drewN | apply Kd.R_drew)); exact HO318.out) (Kd.R_base ho0) hb); have n5_ := Aside0.mk (Kd.R_elder' (by (with_reducible repeat (first | apply Kd.R_alloc | apply Kd.R_drewN | apply Kd.R_drew)); exact HO320.out) (Kd.R_base ho1) hb); have n6_ := Aside0.mk (Kd.R_elder' (by (with_reducible repeat (first | apply Kd.R_alloc | apply Kd.R_drewN | apply Kd.R_drew)); exact HO325.out) (Kd.R_base ho0) hb); have n7_ := Aside0.mk (Kd.R_elder' (by (with_reducible repeat (first | apply Kd.R_alloc | apply Kd.R_drewN | apply Kd.R_drew)); exact HO327.out) (Kd.R_base ho1) hb); have n8_ := Aside0.mk (Kd.R_lower (Kd.R_newB (Kd.R_new' (Kd.R_new' (Kd.R_new' (Kd.R_new' (Kd.R_new' (Kd.R_new' ho0 (Kd.R_lt (by (with_reducible repeat (first | apply Kd.R_alloc | apply Kd.R_drewN | apply Kd.R_drew)); exact HO299.out))) (Kd.R_lt (by (with_reducible repeat (first | apply Kd.R_alloc | apply Kd.R_drewN | apply Kd.R_drew)); exact HO304.out))) (Kd.R_lt (by (with_reducible repeat (first | apply Kd.R_alloc | apply Kd.R_drewN | apply Kd.R_drew)); exact HO308.out))) (Kd.R_lt (by (with_reducible repeat (first | apply Kd.R_alloc | apply Kd.R_drewN | apply Kd.R_drew)); exact HO312.out))) (Kd.R_lt (by (with_reducible repeat (first | apply Kd.R_alloc | apply Kd.R_drewN | apply Kd.R_drew)); exact HO318.out))) (Kd.R_lt (by (with_reducible repeat (first | apply Kd.R_alloc | apply Kd.R_drewN | apply Kd.R_drew)); exact HO325.out))) (g := gb301) (o := .cells #[.int .i64 t300, .int .i64 9] 27 (0, 0)) (by (with_reducible repeat (first | refine blk_drewN ?_ _ | refine blk_drew ?_ | refine blk_alloc ?_ _)); exact BK301.out)) (below_size (by repeat (first | (with_reducible first | exact HB.out | apply below_alloc | apply pw_below_drewN | apply below_drew1 | refine below_set ?_ GE301.out) | exact HB.out)))); have n9_ := Aside0.mk (Kd.R_lower (Kd.R_new' (Kd.R_new' ho1 (Kd.R_lt (by (with_reducible repeat (first | apply Kd.R_alloc | apply Kd.R_drewN | apply Kd.R_drew)); exact HO320.out))) (Kd.R_lt (by (with_reducible repeat (first | apply Kd.R_alloc | apply Kd.R_drewN | apply Kd.R_drew)); exact HO327.out))) (below_size (by repeat (first | (with_reducible first | exact HB.out | apply below_alloc | apply pw_below_drewN | apply below_drew1 | refine below_set ?_ GE301.out) | exact HB.out)))); have n10_ := Aside0.mk (blk_below (g := gb301) (o := .cells #[.int .i64 t300, .int .i64 9] 27 (0, 0)) (by (with_reducible repeat (first | refine blk_drewN ?_ _ | refine blk_drew ?_ | refine blk_alloc ?_ _)); exact BK301.out) hb); have n11_ := Aside0.mk (below_step (by repeat (first | (with_reducible first | exact HB.out | apply below_alloc | apply pw_below_drewN | apply below_drew1 | refine below_set ?_ GE301.out) | exact HB.out)) hb); clear HO299; clear HO304; clear HO308; clear HO312; clear HO318; clear HO320; clear HO325; clear HO327; clear BK301; clear HB; have HO299 := n0_; have HO304 := n1_; have HO308 := n2_; have HO312 := n3_; have HO318 := n4_; have HO320 := n5_; have HO325 := n6_; have HO327 := n7_; have HO332 := n8_; have HO334 := n9_; have BK301 := n10_; have HB := n11_; clear n0_ n1_ n2_ n3_ n4_ n5_ n6_ n7_ n8_ n9_ n10_ n11_; (try clear hb); (try clear hb2); (try clear hk); (try clear hi); (try clear ho0); (try clear ho1); have hcz34_0 : w33.cell? ⟨gb301, 0, none⟩ = some (.int .i64 t300) := (blk_cell BK301.out 0).trans rfl; have hcz34_1 : w33.cell? ⟨gb301, 1, none⟩ = some (.int .i64 9) := (blk_cell BK301.out 1).trans rfl; have hfz34_0 := blk_frozen BK301.out 0; have hfz34_1 := blk_frozen BK301.out 1; obtain ⟨Ao35, co35, eo35⟩ := Kd.R_slice HO312.out; subst eo35) | ((with_reducible refine gate_callee (f := 11) rfl ?_); refine goesL_ (some 97) rfl rfl Try.func11 (by kernel_rfl) rfl #[.slice Ao35 t310.length co35, .int .i64 (wrap64 (t300 + 4))] rfl (by (try simp only [List.map_toArray, List.map_cons, List.map_nil]); first | done | rfl | (simp only [List.length_drop, List.length_take]; rfl)) ?_; (with_reducible refine (impl_TimersDue.calls kj2 _ _ t310 (wrap64 (t300 + 4)) t335 t336 t337 _ ?side1 ?side2 A14.out).mono ?_); (case side1 => repeat (first | exact (Kd.R_reads' HO312.out).2.2 | (with_reducible refine Kd.C_alloc ?_ _) | (with_reducible refine Kd.C_drewN ?_ _) | (with_reducible refine Kd.C_drew ?_))); (case side2 => exact (Kd.R_reads' HO312.out).2.1); rintro e w36 ⟨v338, v340, rfl, ho0, ho1, hb⟩; refine ⟨_, rfl, ?_⟩; have n0_ := Aside0.mk (Kd.R_elder' (by (with_reducible repeat (first | apply Kd.R_alloc | apply Kd.R_drewN | apply Kd.R_drew)); exact HO299.out) (Kd.R_base ho0) hb); have n1_ := Aside0.mk (Kd.R_elder' (by (with_reducible repeat (first | apply Kd.R_alloc | apply Kd.R_drewN | apply Kd.R_drew)); exact HO304.out) (Kd.R_base ho0) hb); have n2_ := Aside0.mk (Kd.R_elder' (by (with_reducible repeat (first | apply Kd.R_alloc | apply Kd.R_drewN | apply Kd.R_drew)); exact HO308.out) (Kd.R_base ho0) hb); have n3_ := Aside0.mk (Kd.R_elder' (by (with_reducible repeat (first | apply Kd.R_alloc | apply Kd.R_drewN | apply Kd.R_drew)); exact HO312.out) (Kd.R_base ho0) hb); have n4_ := Aside0.mk (Kd.R_elder' (by (with_reducible repeat (first | apply Kd.R_alloc | apply Kd.R_drewN | apply Kd.R_drew)); exact HO318.out) (Kd.R_base ho0) hb); have n5_ := Aside0.mk (Kd.R_elder' (by (with_reducible repeat (first | apply Kd.R_alloc | apply Kd.R_drewN | apply Kd.R_drew)); exact HO320.out) (Kd.R_base ho1) hb); have n6_ := Aside0.mk (Kd.R_elder' (by (with_reducible repeat (first | apply Kd.R_alloc | apply Kd.R_drewN | apply Kd.R_drew)); exact HO325.out) (Kd.R_base ho0) hb); have n7_ := Aside0.mk (Kd.R_elder' (by (with_reducible repeat (first | apply Kd.R_alloc | apply Kd.R_drewN | apply Kd.R_drew)); exact HO327.out) (Kd.R_base ho1) hb); have n8_ := Aside0.mk (Kd.R_elder' (by (with_reducible repeat (first | apply Kd.R_alloc | apply Kd.R_drewN | apply Kd.R_drew)); exact HO332.out) (Kd.R_base ho0) hb); have n9_ := Aside0.mk (Kd.R_elder' (by (with_reducible repeat (first | apply Kd.R_alloc | apply Kd.R_drewN | apply Kd.R_drew)); exact HO334.out) (Kd.R_base ho1) hb); have n10_ := Aside0.mk (Kd.R_lower (Kd.R_newB (Kd.R_new' (Kd.R_new' (Kd.R_new' (Kd.R_new' (Kd.R_new' (Kd.R_new' (Kd.R_new' ho0 (Kd.R_lt (by (with_reducible repeat (first | apply Kd.R_alloc | apply Kd.R_drewN | apply Kd.R_drew)); exact HO299.out))) (Kd.R_lt (by (with_reducible repeat (first | apply Kd.R_alloc | apply Kd.R_drewN | apply Kd.R_drew)); exact HO304.out))) (Kd.R_lt (by (with_reducible repeat (first | apply Kd.R_alloc | apply Kd.R_drewN | apply Kd.R_drew)); exact HO308.out))) (Kd.R_lt (by (with_reducible repeat (first | apply Kd.R_alloc | apply Kd.R_drewN | apply Kd.R_drew)); exact HO312.out))) (Kd.R_lt (by (with_reducible repeat (first | apply Kd.R_alloc | apply Kd.R_drewN | apply Kd.R_drew)); exact HO318.out))) (Kd.R_lt (by (with_reducible repeat (first | apply Kd.R_alloc | apply Kd.R_drewN | apply Kd.R_drew)); exact HO325.out))) (Kd.R_lt (by (with_reducible repeat (first | apply Kd.R_alloc | apply Kd.R_drewN | apply Kd.R_drew)); exact HO332.out))) (g := gb301) (o := .cells #[.int .i64 t300, .int .i64 9] 27 (0, 0)) (by (with_reducible repeat (first | refine blk_drewN ?_ _ | refine blk_drew ?_ | refine blk_alloc ?_ _)); exact BK301.out)) (below_size (by repeat (first | (with_reducible first | exact HB.out | apply below_alloc | apply pw_below_drewN | apply below_drew1 | refine below_set ?_ GE301.out) | exact HB.out)))); have n11_ := Aside0.mk (Kd.R_lower (Kd.R_new' (Kd.R_new' (Kd.R_new' ho1 (Kd.R_lt (by (with_reducible repeat (first | apply Kd.R_alloc | apply Kd.R_drewN | apply Kd.R_drew)); exact HO320.out))) (Kd.R_lt (by (with_reducible repeat (first | apply Kd.R_alloc | apply Kd.R_drewN | apply Kd.R_drew)); exact HO327.out))) (Kd.R_lt (by (with_reducible repeat (first | apply Kd.R_alloc | apply Kd.R_drewN | apply Kd.R_drew)); exact HO334.out))) (below_size (by repeat (first | (with_reducible first | exact HB.out | apply below_alloc | apply pw_below_drewN | apply below_drew1 | refine below_set ?_ GE301.out) | exact HB.out)))); have n12_ := Aside0.mk (blk_below (g := gb301) (o := .cells #[.int .i64 t300, .int .i64 9] 27 (0, 0)) (by (with_reducible repeat (first | refine blk_drewN ?_ _ | refine blk_drew ?_ | refine blk_alloc ?_ _)); exact BK301.out) hb); have n13_ := Aside0.mk (below_step (by repeat (first | (with_reducible first | exact HB.out | apply below_alloc | apply pw_below_drewN | apply below_drew1 | refine below_set ?_ GE301.out) | exact HB.out)) hb); clear HO299; clear HO304; clear HO308; clear HO312; clear HO318; clear HO320; clear HO325; clear HO327; clear HO332; clear HO334; clear BK301; clear HB; have HO299 := n0_; have HO304 := n1_; have HO308 := n2_; have HO312 := n3_; have HO318 := n4_; have HO320 := n5_; have HO325 := n6_; have HO327 := n7_; have HO332 := n8_; have HO334 := n9_; have HO339 := n10_; have HO341 := n11_; have BK301 := n12_; have HB := n13_; clear n0_ n1_ n2_ n3_ n4_ n5_ n6_ n7_ n8_ n9_ n10_ n11_ n12_ n13_; (try clear hb); (try clear hb2); (try clear hk); (try clear hi); (try clear ho0); (try clear ho1)) | ((with_reducible refine gate_callee (f := 13) rfl ?_); refine goesL_ (some 103) rfl rfl Try.func13 (by kernel_rfl) rfl #[.slice Ao26 t302.length co26, .int .i64 9] rfl (by (try simp only [List.map_toArray, List.map_cons, List.map_nil]); first | done | rfl | (simp only [List.length_drop, List.length_take]; rfl)) ?_; (with_reducible refine (impl_TimerDrop.calls kj2 _ _ t302 9 t342 t343 _ ?side1 ?side2 A15.out).mono ?_); (case side1 => repeat (first | exact (Kd.R_reads' HO304.out).2.2 | (with_reducible refine Kd.C_alloc ?_ _) | (with_reducible refine Kd.C_drewN ?_ _) | (with_reducible refine Kd.C_drew ?_))); (case side2 => exact (Kd.R_reads' HO304.out).2.1); rintro e w37 ⟨v344, rfl, ho0, hb⟩; refine ⟨_, rfl, ?_⟩; have n0_ := Aside0.mk (Kd.R_elder' (by (with_reducible repeat (first | apply Kd.R_alloc | apply Kd.R_drewN | apply Kd.R_drew)); exact HO299.out) (Kd.R_base ho0) hb); have n1_ := Aside0.mk (Kd.R_elder' (by (with_reducible repeat (first | apply Kd.R_alloc | apply Kd.R_drewN | apply Kd.R_drew)); exact HO304.out) (Kd.R_base ho0) hb); have n2_ := Aside0.mk (Kd.R_elder' (by (with_reducible repeat (first | apply Kd.R_alloc | apply Kd.R_drewN | apply Kd.R_drew)); exact HO308.out) (Kd.R_base ho0) hb); have n3_ := Aside0.mk (Kd.R_elder' (by (with_reducible repeat (first | apply Kd.R_alloc | apply Kd.R_drewN | apply Kd.R_drew)); exact HO312.out) (Kd.R_base ho0) hb); have n4_ := Aside0.mk (Kd.R_elder' (by (with_reducible repeat (first | apply Kd.R_alloc | apply Kd.R_drewN | apply Kd.R_drew)); exact HO318.out) (Kd.R_base ho0) hb); have n5_ := Aside0.mk (Kd.R_below (by (with_reducible repeat (first | apply Kd.R_alloc | apply Kd.R_drewN | apply Kd.R_drew)); exact HO320.out) hb); have n6_ := Aside0.mk (Kd.R_elder' (by (with_reducible repeat (first | apply Kd.R_alloc | apply Kd.R_drewN | apply Kd.R_drew)); exact HO325.out) (Kd.R_base ho0) hb); have n7_ := Aside0.mk (Kd.R_below (by (with_reducible repeat (first | apply Kd.R_alloc | apply Kd.R_drewN | apply Kd.R_drew)); exact HO327.out) hb); have n8_ := Aside0.mk (Kd.R_elder' (by (with_reducible repeat (first | apply Kd.R_alloc | apply Kd.R_drewN | apply Kd.R_drew)); exact HO332.out) (Kd.R_base ho0) hb); have n9_ := Aside0.mk (Kd.R_below (by (with_reducible repeat (first | apply Kd.R_alloc | apply Kd.R_drewN | apply Kd.R_drew)); exact HO334.out) hb); have n10_ := Aside0.mk (Kd.R_elder' (by (with_reducible repeat (first | apply Kd.R_alloc | apply Kd.R_drewN | apply Kd.R_drew)); exact HO339.out) (Kd.R_base ho0) hb); have n11_ := Aside0.mk (Kd.R_below (by (with_reducible repeat (first | apply Kd.R_alloc | apply Kd.R_drewN | apply Kd.R_drew)); exact HO341.out) hb); have n12_ := Aside0.mk (Kd.R_lower (Kd.R_newB (Kd.R_new' (Kd.R_new' (Kd.R_new' (Kd.R_new' (Kd.R_new' (Kd.R_new' (Kd.R_new' (Kd.R_new' ho0 (Kd.R_lt (by (with_reducible repeat (first | apply Kd.R_alloc | apply Kd.R_drewN | apply Kd.R_drew)); exact HO299.out))) (Kd.R_lt (by (with_reducible repeat (first | apply Kd.R_alloc | apply Kd.R_drewN | apply Kd.R_drew)); exact HO304.out))) (Kd.R_lt (by (with_reducible repeat (first | apply Kd.R_alloc | apply Kd.R_drewN | apply Kd.R_drew)); exact HO308.out))) (Kd.R_lt (by (with_reducible repeat (first | apply Kd.R_alloc | apply Kd.R_drewN | apply Kd.R_drew)); exact HO312.out))) (Kd.R_lt (by (with_reducible repeat (first | apply Kd.R_alloc | apply Kd.R_drewN | apply Kd.R_drew)); exact HO318.out))) (Kd.R_lt (by (with_reducible repeat (first | apply Kd.R_alloc | apply Kd.R_drewN | apply Kd.R_drew)); exact HO325.out))) (Kd.R_lt (by (with_reducible repeat (first | apply Kd.R_alloc | apply Kd.R_drewN | apply Kd.R_drew)); exact HO332.out))) (Kd.R_lt (by (with_reducible repeat (first | apply Kd.R_alloc | apply Kd.R_drewN | apply Kd.R_drew)); exact HO339.out))) (g := gb301) (o := .cells #[.int .i64 t300, .int .i64 9] 27 (0, 0)) (by (with_reducible repeat (first | refine blk_drewN ?_ _ | refine blk_drew ?_ | refine blk_alloc ?_ _)); exact BK301.out)) (below_size (by repeat (first | (with_reducible first | exact HB.out | apply below_alloc | apply pw_below_drewN | apply below_drew1 | refine below_set ?_ GE301.out) | exact HB.out)))); have n13_ := Aside0.mk (blk_below (g := gb301) (o := .cells #[.int .i64 t300, .int .i64 9] 27 (0, 0)) (by (with_reducible repeat (first | refine blk_drewN ?_ _ | refine blk_drew ?_ | refine blk_alloc ?_ _)); exact BK301.out) hb); have n14_ := Aside0.mk (below_step (by repeat (first | (with_reducible first | exact HB.out | apply below_alloc | apply pw_below_drewN | apply below_drew1 | refine below_set ?_ GE301.out) | exact HB.out)) hb); clear HO299; clear HO304; clear HO308; clear HO312; clear HO318; clear HO320; clear HO325; clear HO327; clear HO332; clear HO334; clear HO339; clear HO341; clear BK301; clear HB; have HO299 := n0_; have HO304 := n1_; have HO308 := n2_; have HO312 := n3_; have HO318 := n4_; have HO320 := n5_; have HO325 := n6_; have HO327 := n7_; have HO332 := n8_; have HO334 := n9_; have HO339 := n10_; have HO341 := n11_; have HO345 := n12_; have BK301 := n13_; have HB := n14_; clear n0_ n1_ n2_ n3_ n4_ n5_ n6_ n7_ n8_ n9_ n10_ n11_ n12_ n13_ n14_; (try clear hb); (try clear hb2); (try clear hk); (try clear hi); (try clear ho0); obtain ⟨Ao38, co38, eo38⟩ := Kd.R_slice HO345.out; subst eo38) | ((with_reducible refine gate_callee (f := 13) rfl ?_); refine goesL_ (some 108) rfl rfl Try.func13 (by kernel_rfl) rfl #[.slice Ao38 t342.length co38, .int .i64 9] rfl (by (try simp only [List.map_toArray, List.map_cons, List.map_nil]); first | done | rfl | (simp only [List.length_drop, List.length_take]; rfl)) ?_; (with_reducible refine (impl_TimerDrop.calls kj2 _ _ t342 9 t346 t347 _ ?side1 ?side2 A16.out).mono ?_); (case side1 => repeat (first | exact (Kd.R_reads' HO345.out).2.2 | (with_reducible refine Kd.C_alloc ?_ _) | (with_reducible refine Kd.C_drewN ?_ _) | (with_reducible refine Kd.C_drew ?_))); (case side2 => exact (Kd.R_reads' HO345.out).2.1); rintro e w39 ⟨v348, rfl, ho0, hb⟩; refine ⟨_, rfl, ?_⟩; have n0_ := Aside0.mk (Kd.R_elder' (by (with_reducible repeat (first | apply Kd.R_alloc | apply Kd.R_drewN | apply Kd.R_drew)); exact HO299.out) (Kd.R_base ho0) hb); have n1_ := Aside0.mk (Kd.R_elder' (by (with_reducible repeat (first | apply Kd.R_alloc | apply Kd.R_drewN | apply Kd.R_drew)); exact HO304.out) (Kd.R_base ho0) hb); have n2_ := Aside0.mk (Kd.R_elder' (by (with_reducible repeat (first | apply Kd.R_alloc | apply Kd.R_drewN | apply Kd.R_drew)); exact HO308.out) (Kd.R_base ho0) hb); have n3_ := Aside0.mk (Kd.R_elder' (by (with_reducible repeat (first | apply Kd.R_alloc | apply Kd.R_drewN | apply Kd.R_drew)); exact HO312.out) (Kd.R_base ho0) hb); have n4_ := Aside0.mk (Kd.R_elder' (by (with_reducible repeat (first | apply Kd.R_alloc | apply Kd.R_drewN | apply Kd.R_drew)); exact HO318.out) (Kd.R_base ho0) hb); have n5_ := Aside0.mk (Kd.R_below (by (with_reducible repeat (first | apply Kd.R_alloc | apply Kd.R_drewN | apply Kd.R_drew)); exact HO320.out) hb); have n6_ := Aside0.mk (Kd.R_elder' (by (with_reducible repeat (first | apply Kd.R_alloc | apply Kd.R_drewN | apply Kd.R_drew)); exact HO325.out) (Kd.R_base ho0) hb); have n7_ := Aside0.mk (Kd.R_below (by (with_reducible repeat (first | apply Kd.R_alloc | apply Kd.R_drewN | apply Kd.R_drew)); exact HO327.out) hb); have n8_ := Aside0.mk (Kd.R_elder' (by (with_reducible repeat (first | apply Kd.R_alloc | apply Kd.R_drewN | apply Kd.R_drew)); exact HO332.out) (Kd.R_base ho0) hb); have n9_ := Aside0.mk (Kd.R_below (by (with_reducible repeat (first | apply Kd.R_alloc | apply Kd.R_drewN | apply Kd.R_drew)); exact HO334.out) hb); have n10_ := Aside0.mk (Kd.R_elder' (by (with_reducible repeat (first | apply Kd.R_alloc | apply Kd.R_drewN | apply Kd.R_drew)); exact HO339.out) (Kd.R_base ho0) hb); have n11_ := Aside0.mk (Kd.R_below (by (with_reducible repeat (first | apply Kd.R_alloc | apply Kd.R_drewN | apply Kd.R_drew)); exact HO341.out) hb); have n12_ := Aside0.mk (Kd.R_elder' (by (with_reducible repeat (first | apply Kd.R_alloc | apply Kd.R_drewN | apply Kd.R_drew)); exact HO345.out) (Kd.R_base ho0) hb); have n13_ := Aside0.mk (Kd.R_lower (Kd.R_newB (Kd.R_new' (Kd.R_new' (Kd.R_new' (Kd.R_new' (Kd.R_new' (Kd.R_new' (Kd.R_new' (Kd.R_new' (Kd.R_new' ho0 (Kd.R_lt (by (with_reducible repeat (first | apply Kd.R_alloc | apply Kd.R_drewN | apply Kd.R_drew)); exact HO299.out))) (Kd.R_lt (by (with_reducible repeat (first | apply Kd.R_alloc | apply Kd.R_drewN | apply Kd.R_drew)); exact HO304.out))) (Kd.R_lt (by (with_reducible repeat (first | apply Kd.R_alloc | apply Kd.R_drewN | apply Kd.R_drew)); exact HO308.out))) (Kd.R_lt (by (with_reducible repeat (first | apply Kd.R_alloc | apply Kd.R_drewN | apply Kd.R_drew)); exact HO312.out))) (Kd.R_lt (by (with_reducible repeat (first | apply Kd.R_alloc | apply Kd.R_drewN | apply Kd.R_drew)); exact HO318.out))) (Kd.R_lt (by (with_reducible repeat (first | apply Kd.R_alloc | apply Kd.R_drewN | apply Kd.R_drew)); exact HO325.out))) (Kd.R_lt (by (with_reducible repeat (first | apply Kd.R_alloc | apply Kd.R_drewN | apply Kd.R_drew)); exact HO332.out))) (Kd.R_lt (by (with_reducible repeat (first | apply Kd.R_alloc | apply Kd.R_drewN | apply Kd.R_drew)); exact HO339.out))) (Kd.R_lt (by (with_reducible repeat (first | apply Kd.R_alloc | apply Kd.R_drewN | apply Kd.R_drew)); exact HO345.out))) (g := gb301) (o := .cells #[.int .i64 t300, .int .i64 9] 27 (0, 0)) (by (with_reducible repeat (first | refine blk_drewN ?_ _ | refine blk_drew ?_ | refine blk_alloc ?_ _)); exact BK301.out)) (below_size (by repeat (first | (with_reducible first | exact HB.out | apply below_alloc | apply pw_below_drewN | apply below_drew1 | refine below_set ?_ GE301.out) | exact HB.out)))); have n14_ := Aside0.mk (blk_below (g := gb301) (o := .cells #[.int .i64 t300, .int .i64 9] 27 (0, 0)) (by (with_reducible repeat (first | refine blk_drewN ?_ _ | refine blk_drew ?_ | refine blk_alloc ?_ _)); exact BK301.out) hb); have n15_ := Aside0.mk (below_step (by repeat (first | (with_reducible first | exact HB.out | apply below_alloc | apply pw_below_drewN | apply below_drew1 | refine below_set ?_ GE301.out) | exact HB.out)) hb); clear HO299; clear HO304; clear HO308; clear HO312; clear HO318; clear HO320; clear HO325; clear HO327; clear HO332; clear HO334; clear HO339; clear HO341; clear HO345; clear BK301; clear HB; have HO299 := n0_; have HO304 := n1_; have HO308 := n2_; have HO312 := n3_; have HO318 := n4_; have HO320 := n5_; have HO325 := n6_; have HO327 := n7_; have HO332 := n8_; have HO334 := n9_; have HO339 := n10_; have HO341 := n11_; have HO345 := n12_; have HO349 := n13_; have BK301 := n14_; have HB := n15_; clear n0_ n1_ n2_ n3_ n4_ n5_ n6_ n7_ n8_ n9_ n10_ n11_ n12_ n13_ n14_ n15_; (try clear hb); (try clear hb2); (try clear hk); (try clear hi); (try clear ho0)))
    (try simp only [Act.put, List.setIfInBounds_toArray, List.set_cons_zero, List.set_cons_succ])
    go_cut [177] (fun v177 wc => ∃ (kq : Nat) (x177_16 : Bool), v177 = .bool x177_16 ∧ Aside0 (laws_FnTimers.j1 kq t315 t329 t336 x177_16 = some r) ∧ Aside0 (kq ≤ kj2) ∧ Aside0 (Kd.R (Kd.int .i64) 3 wc w.heap.size (fun k_ => some k_ ≠ (v333 : Value).ownBlock ∧ some k_ ≠ (v340 : Value).ownBlock) v319 t315) ∧ Aside0 (Kd.R (Kd.int .i64) 3 wc w.heap.size (fun k_ => some k_ ≠ (v319 : Value).ownBlock ∧ some k_ ≠ (v340 : Value).ownBlock) v333 t329) ∧ Aside0 (Kd.R (Kd.int .i64) 3 wc w.heap.size (fun k_ => some k_ ≠ (v319 : Value).ownBlock ∧ some k_ ≠ (v333 : Value).ownBlock) v340 t336) ∧ Aside0 (wc.heap[gb301]? = some (.cells #[.int .i64 t300, .int .i64 9] 27 (0, 0))) ∧ Aside0 (Below w.heap.size w wc))
    case first =>
     have H := HC17.out
     clear HC17
     by_cases c40 : t305 = 0
     ·rw [if_pos c40] at H
      have c40b0 : (t305 == 0) = true := beq_iff_eq.mpr c40
      have c40b1 : (t305 != 0) = false := bne_eq_false_iff_eq.mpr c40
      clear c40
      (first | rw [c40b0] | (simp only [i64_w, i32_w]; rw [c40b0]) | skip)
      replace H := Option.bind_eq_some_iff.mp H
      obtain ⟨t350, A410, H⟩ := H
      replace H : (if t350 = true then (if t313 = 0 then (if (t310.length : Int) = (t302.length : Int) then (if t316 = 0 then ((laws_sameTimers.f kj2 t314 t321).bind fun t351 => (if t351 = true then ((laws_sameInts.f kj2 t315 t322).bind fun t352 => (if t352 = true then (if t330 = 0 then (if t337 = 0 then (if t343 = 0 then ((laws_sameTimers.f kj2 t342 t297).bind fun t353 => (if t353 = true then (if t347 = 5 then (laws_FnTimers.j1 kj2 t315 t329 t336 ((wrap64 ((t314.length : Int) + (t315.length : Int))) != (t302.length : Int))) else (laws_FnTimers.j1 kj2 t315 t329 t336 true)) else (laws_FnTimers.j1 kj2 t315 t329 t336 true))) else (laws_FnTimers.j1 kj2 t315 t329 t336 true)) else (laws_FnTimers.j1 kj2 t315 t329 t336 true)) else (laws_FnTimers.j1 kj2 t315 t329 t336 true)) else (laws_FnTimers.j1 kj2 t315 t329 t336 true))) else (laws_FnTimers.j1 kj2 t315 t329 t336 true))) else (laws_FnTimers.j1 kj2 t315 t329 t336 true)) else (laws_FnTimers.j1 kj2 t315 t329 t336 true)) else (laws_FnTimers.j1 kj2 t315 t329 t336 true)) else (laws_FnTimers.j1 kj2 t315 t329 t336 true)) = some r := H
      have A41 := Aside0.mk A410
      clear A410
      by_cases c42 : t350 = true
      ·subst c42
       have H1 : (if t313 = 0 then (if (t310.length : Int) = (t302.length : Int) then (if t316 = 0 then ((laws_sameTimers.f kj2 t314 t321).bind fun t351 => (if t351 = true then ((laws_sameInts.f kj2 t315 t322).bind fun t352 => (if t352 = true then (if t330 = 0 then (if t337 = 0 then (if t343 = 0 then ((laws_sameTimers.f kj2 t342 t297).bind fun t353 => (if t353 = true then (if t347 = 5 then (laws_FnTimers.j1 kj2 t315 t329 t336 ((wrap64 ((t314.length : Int) + (t315.length : Int))) != (t302.length : Int))) else (laws_FnTimers.j1 kj2 t315 t329 t336 true)) else (laws_FnTimers.j1 kj2 t315 t329 t336 true))) else (laws_FnTimers.j1 kj2 t315 t329 t336 true)) else (laws_FnTimers.j1 kj2 t315 t329 t336 true)) else (laws_FnTimers.j1 kj2 t315 t329 t336 true)) else (laws_FnTimers.j1 kj2 t315 t329 t336 true))) else (laws_FnTimers.j1 kj2 t315 t329 t336 true))) else (laws_FnTimers.j1 kj2 t315 t329 t336 true)) else (laws_FnTimers.j1 kj2 t315 t329 t336 true)) else (laws_FnTimers.j1 kj2 t315 t329 t336 true)) = some r := by rw [if_pos rfl] at H; exact H
       clear H
       have H := H1
       clear H1
       by_cases c43 : t313 = 0
       ·rw [if_pos c43] at H
        have c43b0 : (t313 == 0) = true := beq_iff_eq.mpr c43
        have c43b1 : (t313 != 0) = false := bne_eq_false_iff_eq.mpr c43
        clear c43
        by_cases c44 : (t310.length : Int) = (t302.length : Int)
        ·rw [if_pos c44] at H
         have c44b0 : ((t310.length : Int) == (t302.length : Int)) = true := beq_iff_eq.mpr c44
         have c44b1 : ((t310.length : Int) != (t302.length : Int)) = false := bne_eq_false_iff_eq.mpr c44
         have c44b2 : (t310.length == t302.length) = true := by first | simpa using c44 | (simp at c44 ⊢; omega)
         clear c44
         by_cases c45 : t316 = 0
         ·rw [if_pos c45] at H
          have c45b0 : (t316 == 0) = true := beq_iff_eq.mpr c45
          have c45b1 : (t316 != 0) = false := bne_eq_false_iff_eq.mpr c45
          clear c45
          replace H := Option.bind_eq_some_iff.mp H
          obtain ⟨t351, A460, H⟩ := H
          replace H : (if t351 = true then ((laws_sameInts.f kj2 t315 t322).bind fun t352 => (if t352 = true then (if t330 = 0 then (if t337 = 0 then (if t343 = 0 then ((laws_sameTimers.f kj2 t342 t297).bind fun t353 => (if t353 = true then (if t347 = 5 then (laws_FnTimers.j1 kj2 t315 t329 t336 ((wrap64 ((t314.length : Int) + (t315.length : Int))) != (t302.length : Int))) else (laws_FnTimers.j1 kj2 t315 t329 t336 true)) else (laws_FnTimers.j1 kj2 t315 t329 t336 true))) else (laws_FnTimers.j1 kj2 t315 t329 t336 true)) else (laws_FnTimers.j1 kj2 t315 t329 t336 true)) else (laws_FnTimers.j1 kj2 t315 t329 t336 true)) else (laws_FnTimers.j1 kj2 t315 t329 t336 true))) else (laws_FnTimers.j1 kj2 t315 t329 t336 true)) = some r := H
          have A46 := Aside0.mk A460
          clear A460
          by_cases c47 : t351 = true
          ·subst c47
           have H1 : ((laws_sameInts.f kj2 t315 t322).bind fun t352 => (if t352 = true then (if t330 = 0 then (if t337 = 0 then (if t343 = 0 then ((laws_sameTimers.f kj2 t342 t297).bind fun t353 => (if t353 = true then (if t347 = 5 then (laws_FnTimers.j1 kj2 t315 t329 t336 ((wrap64 ((t314.length : Int) + (t315.length : Int))) != (t302.length : Int))) else (laws_FnTimers.j1 kj2 t315 t329 t336 true)) else (laws_FnTimers.j1 kj2 t315 t329 t336 true))) else (laws_FnTimers.j1 kj2 t315 t329 t336 true)) else (laws_FnTimers.j1 kj2 t315 t329 t336 true)) else (laws_FnTimers.j1 kj2 t315 t329 t336 true)) else (laws_FnTimers.j1 kj2 t315 t329 t336 true))) = some r := by rw [if_pos rfl] at H; exact H
           clear H
           have H := H1
           clear H1
           replace H := Option.bind_eq_some_iff.mp H
           obtain ⟨t352, A480, H⟩ := H
           replace H : (if t352 = true then (if t330 = 0 then (if t337 = 0 then (if t343 = 0 then ((laws_sameTimers.f kj2 t342 t297).bind fun t353 => (if t353 = true then (if t347 = 5 then (laws_FnTimers.j1 kj2 t315 t329 t336 ((wrap64 ((t314.length : Int) + (t315.length : Int))) != (t302.length : Int))) else (laws_FnTimers.j1 kj2 t315 t329 t336 true)) else (laws_FnTimers.j1 kj2 t315 t329 t336 true))) else (laws_FnTimers.j1 kj2 t315 t329 t336 true)) else (laws_FnTimers.j1 kj2 t315 t329 t336 true)) else (laws_FnTimers.j1 kj2 t315 t329 t336 true)) else (laws_FnTimers.j1 kj2 t315 t329 t336 true)) = some r := H
           have A48 := Aside0.mk A480
           clear A480
           by_cases c49 : t352 = true
           ·subst c49
            have H1 : (if t330 = 0 then (if t337 = 0 then (if t343 = 0 then ((laws_sameTimers.f kj2 t342 t297).bind fun t353 => (if t353 = true then (if t347 = 5 then (laws_FnTimers.j1 kj2 t315 t329 t336 ((wrap64 ((t314.length : Int) + (t315.length : Int))) != (t302.length : Int))) else (laws_FnTimers.j1 kj2 t315 t329 t336 true)) else (laws_FnTimers.j1 kj2 t315 t329 t336 true))) else (laws_FnTimers.j1 kj2 t315 t329 t336 true)) else (laws_FnTimers.j1 kj2 t315 t329 t336 true)) else (laws_FnTimers.j1 kj2 t315 t329 t336 true)) = some r := by rw [if_pos rfl] at H; exact H
            clear H
            have H := H1
            clear H1
            by_cases c50 : t330 = 0
            ·rw [if_pos c50] at H
             have c50b0 : (t330 == 0) = true := beq_iff_eq.mpr c50
             have c50b1 : (t330 != 0) = false := bne_eq_false_iff_eq.mpr c50
             clear c50
             by_cases c51 : t337 = 0
             ·rw [if_pos c51] at H
              have c51b0 : (t337 == 0) = true := beq_iff_eq.mpr c51
              have c51b1 : (t337 != 0) = false := bne_eq_false_iff_eq.mpr c51
              clear c51
              by_cases c52 : t343 = 0
              ·rw [if_pos c52] at H
               have c52b0 : (t343 == 0) = true := beq_iff_eq.mpr c52
               have c52b1 : (t343 != 0) = false := bne_eq_false_iff_eq.mpr c52
               clear c52
               replace H := Option.bind_eq_some_iff.mp H
               obtain ⟨t353, A530, H⟩ := H
               replace H : (if t353 = true then (if t347 = 5 then (laws_FnTimers.j1 kj2 t315 t329 t336 ((wrap64 ((t314.length : Int) + (t315.length : Int))) != (t302.length : Int))) else (laws_FnTimers.j1 kj2 t315 t329 t336 true)) else (laws_FnTimers.j1 kj2 t315 t329 t336 true)) = some r := H
               have A53 := Aside0.mk A530
               clear A530
               by_cases c54 : t353 = true
               ·subst c54
                have H1 : (if t347 = 5 then (laws_FnTimers.j1 kj2 t315 t329 t336 ((wrap64 ((t314.length : Int) + (t315.length : Int))) != (t302.length : Int))) else (laws_FnTimers.j1 kj2 t315 t329 t336 true)) = some r := by rw [if_pos rfl] at H; exact H
                clear H
                have H := H1
                clear H1
                by_cases c55 : t347 = 5
                ·rw [if_pos c55] at H
                 have c55b0 : (t347 == 5) = true := beq_iff_eq.mpr c55
                 have c55b1 : (t347 != 5) = false := bne_eq_false_iff_eq.mpr c55
                 clear c55
                 have H' := Aside0.mk H
                 clear H
                 obtain ⟨Ao56, co56, eo56⟩ := Kd.R_slice HO308.out
                 subst eo56
                 as_aux_lemma =>
                  go_wp2_with (first | (go_at_call 14; (with_reducible refine (laws_sameTimers.calls kj2 _ _ t302 _ _ t306 true _ ?side1 ?side2 ?side3 ?side4 A41.out).mono ?_); (case side1 => repeat (first | exact (Kd.R_reads' HO304.out).2.2 | (with_reducible refine Kd.C_alloc ?_ _) | (with_reducible refine Kd.C_drewN ?_ _) | (with_reducible refine Kd.C_drew ?_))); (case side2 => exact (Kd.R_reads' HO304.out).2.1); (case side3 => repeat (first | exact (Kd.R_reads' HO308.out).2.2 | (with_reducible refine Kd.C_alloc ?_ _) | (with_reducible refine Kd.C_drewN ?_ _) | (with_reducible refine Kd.C_drew ?_))); (case side4 => exact (Kd.R_reads' HO308.out).2.1); rintro e w' ⟨rfl, ⟨nd, rfl⟩⟩; obtain ⟨Ao57, co57, eo57⟩ := Kd.R_slice HO318.out; subst eo57; obtain ⟨Ao58, co58, eo58⟩ := Kd.R_slice HO325.out; subst eo58) | (go_at_call 14; (with_reducible refine (laws_sameTimers.calls kj2 _ _ t314 _ _ t321 true _ ?side1 ?side2 ?side3 ?side4 A46.out).mono ?_); (case side1 => repeat (first | exact (Kd.R_reads' HO318.out).2.2 | (with_reducible refine Kd.C_alloc ?_ _) | (with_reducible refine Kd.C_drewN ?_ _) | (with_reducible refine Kd.C_drew ?_))); (case side2 => exact (Kd.R_reads' HO318.out).2.1); (case side3 => repeat (first | exact (Kd.R_reads' HO325.out).2.2 | (with_reducible refine Kd.C_alloc ?_ _) | (with_reducible refine Kd.C_drewN ?_ _) | (with_reducible refine Kd.C_drew ?_))); (case side4 => exact (Kd.R_reads' HO325.out).2.1); rintro e w' ⟨rfl, ⟨nd, rfl⟩⟩; obtain ⟨Ao59, co59, eo59⟩ := Kd.R_slice HO320.out; subst eo59; obtain ⟨Ao60, co60, eo60⟩ := Kd.R_slice HO327.out; subst eo60) | (go_at_call 15; (with_reducible refine (laws_sameInts.calls kj2 _ _ t315 _ _ t322 true _ ?side1 ?side2 ?side3 ?side4 A48.out).mono ?_); (case side1 => repeat (first | exact (Kd.R_reads' HO320.out).2.2 | (with_reducible refine Kd.C_alloc ?_ _) | (with_reducible refine Kd.C_drewN ?_ _) | (with_reducible refine Kd.C_drew ?_))); (case side2 => exact (Kd.R_reads' HO320.out).2.1); (case side3 => repeat (first | exact (Kd.R_reads' HO327.out).2.2 | (with_reducible refine Kd.C_alloc ?_ _) | (with_reducible refine Kd.C_drewN ?_ _) | (with_reducible refine Kd.C_drew ?_))); (case side4 => exact (Kd.R_reads' HO327.out).2.1); rintro e w' ⟨rfl, ⟨nd, rfl⟩⟩) | (go_at_call 14; (with_reducible refine (laws_sameTimers.calls kj2 _ _ t342 _ _ t297 true _ ?side1 ?side2 ?side3 ?side4 A53.out).mono ?_); (case side1 => repeat (first | exact (Kd.R_reads' HO345.out).2.2 | (with_reducible refine Kd.C_alloc ?_ _) | (with_reducible refine Kd.C_drewN ?_ _) | (with_reducible refine Kd.C_drew ?_))); (case side2 => exact (Kd.R_reads' HO345.out).2.1); (case side3 => repeat (first | exact (Kd.R_reads' HO299.out).2.2 | (with_reducible refine Kd.C_alloc ?_ _) | (with_reducible refine Kd.C_drewN ?_ _) | (with_reducible refine Kd.C_drew ?_))); (case side4 => exact (Kd.R_reads' HO299.out).2.1); rintro e w' ⟨rfl, ⟨nd, rfl⟩⟩))
                  go_meet
                  case rel => exact ⟨_, (((wrap64 ((t314.length : Int) + (t315.length : Int))) != (t302.length : Int))), (by first | rfl | (simp; done) | (simp [*]; done)), H', ⟨by have := HJ2.out; first | omega | exact Nat.le_refl _⟩, ⟨by (with_reducible repeat (first | apply Kd.R_alloc | apply Kd.R_drewN | apply Kd.R_drew)); exact Kd.R_mono HO320.out (fun _ hk => by first | trivial | exact ⟨hk.1.2, hk.2⟩ | exact hk.2 | exact hk.1 | exact hk | exact hk.1.2 | exact hk.1.1 | exact hk.2.1 | exact hk.2.2)⟩, ⟨by (with_reducible repeat (first | apply Kd.R_alloc | apply Kd.R_drewN | apply Kd.R_drew)); exact Kd.R_mono HO334.out (fun _ hk => by first | trivial | exact ⟨hk.1.1.2, hk.2⟩ | exact hk.2 | exact hk.1 | exact hk | exact hk.1.2 | exact hk.1.1 | exact hk.2.1 | exact hk.2.2)⟩, ⟨by (with_reducible repeat (first | apply Kd.R_alloc | apply Kd.R_drewN | apply Kd.R_drew)); exact Kd.R_mono HO341.out (fun _ hk => by first | trivial | exact ⟨hk.1.1.2, hk.2⟩ | exact hk.2 | exact hk.1 | exact hk | exact hk.1.2 | exact hk.1.1 | exact hk.2.1 | exact hk.2.2)⟩, ⟨by (with_reducible repeat (first | refine blk_drewN ?_ _ | refine blk_drew ?_ | refine blk_alloc ?_ _)); exact BK301.out⟩, ⟨by repeat (first | (with_reducible first | exact HB.out | apply below_alloc | apply pw_below_drewN | apply below_drew1 | refine below_set ?_ GE301.out) | exact HB.out)⟩⟩
                ·rw [if_neg c55] at H
                 have c55b0 : (t347 == 5) = false := beq_eq_false_iff_ne.mpr c55
                 have c55b1 : (t347 != 5) = true := bne_iff_ne.mpr c55
                 have H' := Aside0.mk H
                 clear H
                 obtain ⟨Ao61, co61, eo61⟩ := Kd.R_slice HO308.out
                 subst eo61
                 as_aux_lemma =>
                  go_wp2_with (first | (go_at_call 14; (with_reducible refine (laws_sameTimers.calls kj2 _ _ t302 _ _ t306 true _ ?side1 ?side2 ?side3 ?side4 A41.out).mono ?_); (case side1 => repeat (first | exact (Kd.R_reads' HO304.out).2.2 | (with_reducible refine Kd.C_alloc ?_ _) | (with_reducible refine Kd.C_drewN ?_ _) | (with_reducible refine Kd.C_drew ?_))); (case side2 => exact (Kd.R_reads' HO304.out).2.1); (case side3 => repeat (first | exact (Kd.R_reads' HO308.out).2.2 | (with_reducible refine Kd.C_alloc ?_ _) | (with_reducible refine Kd.C_drewN ?_ _) | (with_reducible refine Kd.C_drew ?_))); (case side4 => exact (Kd.R_reads' HO308.out).2.1); rintro e w' ⟨rfl, ⟨nd, rfl⟩⟩; obtain ⟨Ao62, co62, eo62⟩ := Kd.R_slice HO318.out; subst eo62; obtain ⟨Ao63, co63, eo63⟩ := Kd.R_slice HO325.out; subst eo63) | (go_at_call 14; (with_reducible refine (laws_sameTimers.calls kj2 _ _ t314 _ _ t321 true _ ?side1 ?side2 ?side3 ?side4 A46.out).mono ?_); (case side1 => repeat (first | exact (Kd.R_reads' HO318.out).2.2 | (with_reducible refine Kd.C_alloc ?_ _) | (with_reducible refine Kd.C_drewN ?_ _) | (with_reducible refine Kd.C_drew ?_))); (case side2 => exact (Kd.R_reads' HO318.out).2.1); (case side3 => repeat (first | exact (Kd.R_reads' HO325.out).2.2 | (with_reducible refine Kd.C_alloc ?_ _) | (with_reducible refine Kd.C_drewN ?_ _) | (with_reducible refine Kd.C_drew ?_))); (case side4 => exact (Kd.R_reads' HO325.out).2.1); rintro e w' ⟨rfl, ⟨nd, rfl⟩⟩; obtain ⟨Ao64, co64, eo64⟩ := Kd.R_slice HO320.out; subst eo64; obtain ⟨Ao65, co65, eo65⟩ := Kd.R_slice HO327.out; subst eo65) | (go_at_call 15; (with_reducible refine (laws_sameInts.calls kj2 _ _ t315 _ _ t322 true _ ?side1 ?side2 ?side3 ?side4 A48.out).mono ?_); (case side1 => repeat (first | exact (Kd.R_reads' HO320.out).2.2 | (with_reducible refine Kd.C_alloc ?_ _) | (with_reducible refine Kd.C_drewN ?_ _) | (with_reducible refine Kd.C_drew ?_))); (case side2 => exact (Kd.R_reads' HO320.out).2.1); (case side3 => repeat (first | exact (Kd.R_reads' HO327.out).2.2 | (with_reducible refine Kd.C_alloc ?_ _) | (with_reducible refine Kd.C_drewN ?_ _) | (with_reducible refine Kd.C_drew ?_))); (case side4 => exact (Kd.R_reads' HO327.out).2.1); rintro e w' ⟨rfl, ⟨nd, rfl⟩⟩) | (go_at_call 14; (with_reducible refine (laws_sameTimers.calls kj2 _ _ t342 _ _ t297 true _ ?side1 ?side2 ?side3 ?side4 A53.out).mono ?_); (case side1 => repeat (first | exact (Kd.R_reads' HO345.out).2.2 | (with_reducible refine Kd.C_alloc ?_ _) | (with_reducible refine Kd.C_drewN ?_ _) | (with_reducible refine Kd.C_drew ?_))); (case side2 => exact (Kd.R_reads' HO345.out).2.1); (case side3 => repeat (first | exact (Kd.R_reads' HO299.out).2.2 | (with_reducible refine Kd.C_alloc ?_ _) | (with_reducible refine Kd.C_drewN ?_ _) | (with_reducible refine Kd.C_drew ?_))); (case side4 => exact (Kd.R_reads' HO299.out).2.1); rintro e w' ⟨rfl, ⟨nd, rfl⟩⟩))
                  go_meet
                  case rel => exact ⟨_, (true), (by first | rfl | (simp; done) | (simp [*]; done)), H', ⟨by have := HJ2.out; first | omega | exact Nat.le_refl _⟩, ⟨by (with_reducible repeat (first | apply Kd.R_alloc | apply Kd.R_drewN | apply Kd.R_drew)); exact Kd.R_mono HO320.out (fun _ hk => by first | trivial | exact ⟨hk.1.2, hk.2⟩ | exact hk.2 | exact hk.1 | exact hk | exact hk.1.2 | exact hk.1.1 | exact hk.2.1 | exact hk.2.2)⟩, ⟨by (with_reducible repeat (first | apply Kd.R_alloc | apply Kd.R_drewN | apply Kd.R_drew)); exact Kd.R_mono HO334.out (fun _ hk => by first | trivial | exact ⟨hk.1.1.2, hk.2⟩ | exact hk.2 | exact hk.1 | exact hk | exact hk.1.2 | exact hk.1.1 | exact hk.2.1 | exact hk.2.2)⟩, ⟨by (with_reducible repeat (first | apply Kd.R_alloc | apply Kd.R_drewN | apply Kd.R_drew)); exact Kd.R_mono HO341.out (fun _ hk => by first | trivial | exact ⟨hk.1.1.2, hk.2⟩ | exact hk.2 | exact hk.1 | exact hk | exact hk.1.2 | exact hk.1.1 | exact hk.2.1 | exact hk.2.2)⟩, ⟨by (with_reducible repeat (first | refine blk_drewN ?_ _ | refine blk_drew ?_ | refine blk_alloc ?_ _)); exact BK301.out⟩, ⟨by repeat (first | (with_reducible first | exact HB.out | apply below_alloc | apply pw_below_drewN | apply below_drew1 | refine below_set ?_ GE301.out) | exact HB.out)⟩⟩
               ·replace c54 := Bool.eq_false_iff.mpr c54
                subst c54
                have H1 : (laws_FnTimers.j1 kj2 t315 t329 t336 true) = some r := by rw [if_neg (show ¬ (false = true) by decide)] at H; exact H
                clear H
                have H := H1
                clear H1
                have H' := Aside0.mk H
                clear H
                obtain ⟨Ao66, co66, eo66⟩ := Kd.R_slice HO308.out
                subst eo66
                as_aux_lemma =>
                 go_wp2_with (first | (go_at_call 14; (with_reducible refine (laws_sameTimers.calls kj2 _ _ t302 _ _ t306 true _ ?side1 ?side2 ?side3 ?side4 A41.out).mono ?_); (case side1 => repeat (first | exact (Kd.R_reads' HO304.out).2.2 | (with_reducible refine Kd.C_alloc ?_ _) | (with_reducible refine Kd.C_drewN ?_ _) | (with_reducible refine Kd.C_drew ?_))); (case side2 => exact (Kd.R_reads' HO304.out).2.1); (case side3 => repeat (first | exact (Kd.R_reads' HO308.out).2.2 | (with_reducible refine Kd.C_alloc ?_ _) | (with_reducible refine Kd.C_drewN ?_ _) | (with_reducible refine Kd.C_drew ?_))); (case side4 => exact (Kd.R_reads' HO308.out).2.1); rintro e w' ⟨rfl, ⟨nd, rfl⟩⟩; obtain ⟨Ao67, co67, eo67⟩ := Kd.R_slice HO318.out; subst eo67; obtain ⟨Ao68, co68, eo68⟩ := Kd.R_slice HO325.out; subst eo68) | (go_at_call 14; (with_reducible refine (laws_sameTimers.calls kj2 _ _ t314 _ _ t321 true _ ?side1 ?side2 ?side3 ?side4 A46.out).mono ?_); (case side1 => repeat (first | exact (Kd.R_reads' HO318.out).2.2 | (with_reducible refine Kd.C_alloc ?_ _) | (with_reducible refine Kd.C_drewN ?_ _) | (with_reducible refine Kd.C_drew ?_))); (case side2 => exact (Kd.R_reads' HO318.out).2.1); (case side3 => repeat (first | exact (Kd.R_reads' HO325.out).2.2 | (with_reducible refine Kd.C_alloc ?_ _) | (with_reducible refine Kd.C_drewN ?_ _) | (with_reducible refine Kd.C_drew ?_))); (case side4 => exact (Kd.R_reads' HO325.out).2.1); rintro e w' ⟨rfl, ⟨nd, rfl⟩⟩; obtain ⟨Ao69, co69, eo69⟩ := Kd.R_slice HO320.out; subst eo69; obtain ⟨Ao70, co70, eo70⟩ := Kd.R_slice HO327.out; subst eo70) | (go_at_call 15; (with_reducible refine (laws_sameInts.calls kj2 _ _ t315 _ _ t322 true _ ?side1 ?side2 ?side3 ?side4 A48.out).mono ?_); (case side1 => repeat (first | exact (Kd.R_reads' HO320.out).2.2 | (with_reducible refine Kd.C_alloc ?_ _) | (with_reducible refine Kd.C_drewN ?_ _) | (with_reducible refine Kd.C_drew ?_))); (case side2 => exact (Kd.R_reads' HO320.out).2.1); (case side3 => repeat (first | exact (Kd.R_reads' HO327.out).2.2 | (with_reducible refine Kd.C_alloc ?_ _) | (with_reducible refine Kd.C_drewN ?_ _) | (with_reducible refine Kd.C_drew ?_))); (case side4 => exact (Kd.R_reads' HO327.out).2.1); rintro e w' ⟨rfl, ⟨nd, rfl⟩⟩) | (go_at_call 14; (with_reducible refine (laws_sameTimers.calls kj2 _ _ t342 _ _ t297 false _ ?side1 ?side2 ?side3 ?side4 A53.out).mono ?_); (case side1 => repeat (first | exact (Kd.R_reads' HO345.out).2.2 | (with_reducible refine Kd.C_alloc ?_ _) | (with_reducible refine Kd.C_drewN ?_ _) | (with_reducible refine Kd.C_drew ?_))); (case side2 => exact (Kd.R_reads' HO345.out).2.1); (case side3 => repeat (first | exact (Kd.R_reads' HO299.out).2.2 | (with_reducible refine Kd.C_alloc ?_ _) | (with_reducible refine Kd.C_drewN ?_ _) | (with_reducible refine Kd.C_drew ?_))); (case side4 => exact (Kd.R_reads' HO299.out).2.1); rintro e w' ⟨rfl, ⟨nd, rfl⟩⟩))
                 go_meet
                 case rel => exact ⟨_, (true), (by first | rfl | (simp; done) | (simp [*]; done)), H', ⟨by have := HJ2.out; first | omega | exact Nat.le_refl _⟩, ⟨by (with_reducible repeat (first | apply Kd.R_alloc | apply Kd.R_drewN | apply Kd.R_drew)); exact Kd.R_mono HO320.out (fun _ hk => by first | trivial | exact ⟨hk.1.2, hk.2⟩ | exact hk.2 | exact hk.1 | exact hk | exact hk.1.2 | exact hk.1.1 | exact hk.2.1 | exact hk.2.2)⟩, ⟨by (with_reducible repeat (first | apply Kd.R_alloc | apply Kd.R_drewN | apply Kd.R_drew)); exact Kd.R_mono HO334.out (fun _ hk => by first | trivial | exact ⟨hk.1.1.2, hk.2⟩ | exact hk.2 | exact hk.1 | exact hk | exact hk.1.2 | exact hk.1.1 | exact hk.2.1 | exact hk.2.2)⟩, ⟨by (with_reducible repeat (first | apply Kd.R_alloc | apply Kd.R_drewN | apply Kd.R_drew)); exact Kd.R_mono HO341.out (fun _ hk => by first | trivial | exact ⟨hk.1.1.2, hk.2⟩ | exact hk.2 | exact hk.1 | exact hk | exact hk.1.2 | exact hk.1.1 | exact hk.2.1 | exact hk.2.2)⟩, ⟨by (with_reducible repeat (first | refine blk_drewN ?_ _ | refine blk_drew ?_ | refine blk_alloc ?_ _)); exact BK301.out⟩, ⟨by repeat (first | (with_reducible first | exact HB.out | apply below_alloc | apply pw_below_drewN | apply below_drew1 | refine below_set ?_ GE301.out) | exact HB.out)⟩⟩
              ·rw [if_neg c52] at H
               have c52b0 : (t343 == 0) = false := beq_eq_false_iff_ne.mpr c52
               have c52b1 : (t343 != 0) = true := bne_iff_ne.mpr c52
               have H' := Aside0.mk H
               clear H
               obtain ⟨Ao71, co71, eo71⟩ := Kd.R_slice HO308.out
               subst eo71
               as_aux_lemma =>
                go_wp2_with (first | (go_at_call 14; (with_reducible refine (laws_sameTimers.calls kj2 _ _ t302 _ _ t306 true _ ?side1 ?side2 ?side3 ?side4 A41.out).mono ?_); (case side1 => repeat (first | exact (Kd.R_reads' HO304.out).2.2 | (with_reducible refine Kd.C_alloc ?_ _) | (with_reducible refine Kd.C_drewN ?_ _) | (with_reducible refine Kd.C_drew ?_))); (case side2 => exact (Kd.R_reads' HO304.out).2.1); (case side3 => repeat (first | exact (Kd.R_reads' HO308.out).2.2 | (with_reducible refine Kd.C_alloc ?_ _) | (with_reducible refine Kd.C_drewN ?_ _) | (with_reducible refine Kd.C_drew ?_))); (case side4 => exact (Kd.R_reads' HO308.out).2.1); rintro e w' ⟨rfl, ⟨nd, rfl⟩⟩; obtain ⟨Ao72, co72, eo72⟩ := Kd.R_slice HO318.out; subst eo72; obtain ⟨Ao73, co73, eo73⟩ := Kd.R_slice HO325.out; subst eo73) | (go_at_call 14; (with_reducible refine (laws_sameTimers.calls kj2 _ _ t314 _ _ t321 true _ ?side1 ?side2 ?side3 ?side4 A46.out).mono ?_); (case side1 => repeat (first | exact (Kd.R_reads' HO318.out).2.2 | (with_reducible refine Kd.C_alloc ?_ _) | (with_reducible refine Kd.C_drewN ?_ _) | (with_reducible refine Kd.C_drew ?_))); (case side2 => exact (Kd.R_reads' HO318.out).2.1); (case side3 => repeat (first | exact (Kd.R_reads' HO325.out).2.2 | (with_reducible refine Kd.C_alloc ?_ _) | (with_reducible refine Kd.C_drewN ?_ _) | (with_reducible refine Kd.C_drew ?_))); (case side4 => exact (Kd.R_reads' HO325.out).2.1); rintro e w' ⟨rfl, ⟨nd, rfl⟩⟩; obtain ⟨Ao74, co74, eo74⟩ := Kd.R_slice HO320.out; subst eo74; obtain ⟨Ao75, co75, eo75⟩ := Kd.R_slice HO327.out; subst eo75) | (go_at_call 15; (with_reducible refine (laws_sameInts.calls kj2 _ _ t315 _ _ t322 true _ ?side1 ?side2 ?side3 ?side4 A48.out).mono ?_); (case side1 => repeat (first | exact (Kd.R_reads' HO320.out).2.2 | (with_reducible refine Kd.C_alloc ?_ _) | (with_reducible refine Kd.C_drewN ?_ _) | (with_reducible refine Kd.C_drew ?_))); (case side2 => exact (Kd.R_reads' HO320.out).2.1); (case side3 => repeat (first | exact (Kd.R_reads' HO327.out).2.2 | (with_reducible refine Kd.C_alloc ?_ _) | (with_reducible refine Kd.C_drewN ?_ _) | (with_reducible refine Kd.C_drew ?_))); (case side4 => exact (Kd.R_reads' HO327.out).2.1); rintro e w' ⟨rfl, ⟨nd, rfl⟩⟩))
                go_meet
                case rel => exact ⟨_, (true), (by first | rfl | (simp; done) | (simp [*]; done)), H', ⟨by have := HJ2.out; first | omega | exact Nat.le_refl _⟩, ⟨by (with_reducible repeat (first | apply Kd.R_alloc | apply Kd.R_drewN | apply Kd.R_drew)); exact Kd.R_mono HO320.out (fun _ hk => by first | trivial | exact ⟨hk.1.2, hk.2⟩ | exact hk.2 | exact hk.1 | exact hk | exact hk.1.2 | exact hk.1.1 | exact hk.2.1 | exact hk.2.2)⟩, ⟨by (with_reducible repeat (first | apply Kd.R_alloc | apply Kd.R_drewN | apply Kd.R_drew)); exact Kd.R_mono HO334.out (fun _ hk => by first | trivial | exact ⟨hk.1.1.2, hk.2⟩ | exact hk.2 | exact hk.1 | exact hk | exact hk.1.2 | exact hk.1.1 | exact hk.2.1 | exact hk.2.2)⟩, ⟨by (with_reducible repeat (first | apply Kd.R_alloc | apply Kd.R_drewN | apply Kd.R_drew)); exact Kd.R_mono HO341.out (fun _ hk => by first | trivial | exact ⟨hk.1.1.2, hk.2⟩ | exact hk.2 | exact hk.1 | exact hk | exact hk.1.2 | exact hk.1.1 | exact hk.2.1 | exact hk.2.2)⟩, ⟨by (with_reducible repeat (first | refine blk_drewN ?_ _ | refine blk_drew ?_ | refine blk_alloc ?_ _)); exact BK301.out⟩, ⟨by repeat (first | (with_reducible first | exact HB.out | apply below_alloc | apply pw_below_drewN | apply below_drew1 | refine below_set ?_ GE301.out) | exact HB.out)⟩⟩
             ·rw [if_neg c51] at H
              have c51b0 : (t337 == 0) = false := beq_eq_false_iff_ne.mpr c51
              have c51b1 : (t337 != 0) = true := bne_iff_ne.mpr c51
              have H' := Aside0.mk H
              clear H
              obtain ⟨Ao76, co76, eo76⟩ := Kd.R_slice HO308.out
              subst eo76
              as_aux_lemma =>
               go_wp2_with (first | (go_at_call 14; (with_reducible refine (laws_sameTimers.calls kj2 _ _ t302 _ _ t306 true _ ?side1 ?side2 ?side3 ?side4 A41.out).mono ?_); (case side1 => repeat (first | exact (Kd.R_reads' HO304.out).2.2 | (with_reducible refine Kd.C_alloc ?_ _) | (with_reducible refine Kd.C_drewN ?_ _) | (with_reducible refine Kd.C_drew ?_))); (case side2 => exact (Kd.R_reads' HO304.out).2.1); (case side3 => repeat (first | exact (Kd.R_reads' HO308.out).2.2 | (with_reducible refine Kd.C_alloc ?_ _) | (with_reducible refine Kd.C_drewN ?_ _) | (with_reducible refine Kd.C_drew ?_))); (case side4 => exact (Kd.R_reads' HO308.out).2.1); rintro e w' ⟨rfl, ⟨nd, rfl⟩⟩; obtain ⟨Ao77, co77, eo77⟩ := Kd.R_slice HO318.out; subst eo77; obtain ⟨Ao78, co78, eo78⟩ := Kd.R_slice HO325.out; subst eo78) | (go_at_call 14; (with_reducible refine (laws_sameTimers.calls kj2 _ _ t314 _ _ t321 true _ ?side1 ?side2 ?side3 ?side4 A46.out).mono ?_); (case side1 => repeat (first | exact (Kd.R_reads' HO318.out).2.2 | (with_reducible refine Kd.C_alloc ?_ _) | (with_reducible refine Kd.C_drewN ?_ _) | (with_reducible refine Kd.C_drew ?_))); (case side2 => exact (Kd.R_reads' HO318.out).2.1); (case side3 => repeat (first | exact (Kd.R_reads' HO325.out).2.2 | (with_reducible refine Kd.C_alloc ?_ _) | (with_reducible refine Kd.C_drewN ?_ _) | (with_reducible refine Kd.C_drew ?_))); (case side4 => exact (Kd.R_reads' HO325.out).2.1); rintro e w' ⟨rfl, ⟨nd, rfl⟩⟩; obtain ⟨Ao79, co79, eo79⟩ := Kd.R_slice HO320.out; subst eo79; obtain ⟨Ao80, co80, eo80⟩ := Kd.R_slice HO327.out; subst eo80) | (go_at_call 15; (with_reducible refine (laws_sameInts.calls kj2 _ _ t315 _ _ t322 true _ ?side1 ?side2 ?side3 ?side4 A48.out).mono ?_); (case side1 => repeat (first | exact (Kd.R_reads' HO320.out).2.2 | (with_reducible refine Kd.C_alloc ?_ _) | (with_reducible refine Kd.C_drewN ?_ _) | (with_reducible refine Kd.C_drew ?_))); (case side2 => exact (Kd.R_reads' HO320.out).2.1); (case side3 => repeat (first | exact (Kd.R_reads' HO327.out).2.2 | (with_reducible refine Kd.C_alloc ?_ _) | (with_reducible refine Kd.C_drewN ?_ _) | (with_reducible refine Kd.C_drew ?_))); (case side4 => exact (Kd.R_reads' HO327.out).2.1); rintro e w' ⟨rfl, ⟨nd, rfl⟩⟩))
               go_meet
               case rel => exact ⟨_, (true), (by first | rfl | (simp; done) | (simp [*]; done)), H', ⟨by have := HJ2.out; first | omega | exact Nat.le_refl _⟩, ⟨by (with_reducible repeat (first | apply Kd.R_alloc | apply Kd.R_drewN | apply Kd.R_drew)); exact Kd.R_mono HO320.out (fun _ hk => by first | trivial | exact ⟨hk.1.2, hk.2⟩ | exact hk.2 | exact hk.1 | exact hk | exact hk.1.2 | exact hk.1.1 | exact hk.2.1 | exact hk.2.2)⟩, ⟨by (with_reducible repeat (first | apply Kd.R_alloc | apply Kd.R_drewN | apply Kd.R_drew)); exact Kd.R_mono HO334.out (fun _ hk => by first | trivial | exact ⟨hk.1.1.2, hk.2⟩ | exact hk.2 | exact hk.1 | exact hk | exact hk.1.2 | exact hk.1.1 | exact hk.2.1 | exact hk.2.2)⟩, ⟨by (with_reducible repeat (first | apply Kd.R_alloc | apply Kd.R_drewN | apply Kd.R_drew)); exact Kd.R_mono HO341.out (fun _ hk => by first | trivial | exact ⟨hk.1.1.2, hk.2⟩ | exact hk.2 | exact hk.1 | exact hk | exact hk.1.2 | exact hk.1.1 | exact hk.2.1 | exact hk.2.2)⟩, ⟨by (with_reducible repeat (first | refine blk_drewN ?_ _ | refine blk_drew ?_ | refine blk_alloc ?_ _)); exact BK301.out⟩, ⟨by repeat (first | (with_reducible first | exact HB.out | apply below_alloc | apply pw_below_drewN | apply below_drew1 | refine below_set ?_ GE301.out) | exact HB.out)⟩⟩
            ·rw [if_neg c50] at H
             have c50b0 : (t330 == 0) = false := beq_eq_false_iff_ne.mpr c50
             have c50b1 : (t330 != 0) = true := bne_iff_ne.mpr c50
             have H' := Aside0.mk H
             clear H
             obtain ⟨Ao81, co81, eo81⟩ := Kd.R_slice HO308.out
             subst eo81
             as_aux_lemma =>
              go_wp2_with (first | (go_at_call 14; (with_reducible refine (laws_sameTimers.calls kj2 _ _ t302 _ _ t306 true _ ?side1 ?side2 ?side3 ?side4 A41.out).mono ?_); (case side1 => repeat (first | exact (Kd.R_reads' HO304.out).2.2 | (with_reducible refine Kd.C_alloc ?_ _) | (with_reducible refine Kd.C_drewN ?_ _) | (with_reducible refine Kd.C_drew ?_))); (case side2 => exact (Kd.R_reads' HO304.out).2.1); (case side3 => repeat (first | exact (Kd.R_reads' HO308.out).2.2 | (with_reducible refine Kd.C_alloc ?_ _) | (with_reducible refine Kd.C_drewN ?_ _) | (with_reducible refine Kd.C_drew ?_))); (case side4 => exact (Kd.R_reads' HO308.out).2.1); rintro e w' ⟨rfl, ⟨nd, rfl⟩⟩; obtain ⟨Ao82, co82, eo82⟩ := Kd.R_slice HO318.out; subst eo82; obtain ⟨Ao83, co83, eo83⟩ := Kd.R_slice HO325.out; subst eo83) | (go_at_call 14; (with_reducible refine (laws_sameTimers.calls kj2 _ _ t314 _ _ t321 true _ ?side1 ?side2 ?side3 ?side4 A46.out).mono ?_); (case side1 => repeat (first | exact (Kd.R_reads' HO318.out).2.2 | (with_reducible refine Kd.C_alloc ?_ _) | (with_reducible refine Kd.C_drewN ?_ _) | (with_reducible refine Kd.C_drew ?_))); (case side2 => exact (Kd.R_reads' HO318.out).2.1); (case side3 => repeat (first | exact (Kd.R_reads' HO325.out).2.2 | (with_reducible refine Kd.C_alloc ?_ _) | (with_reducible refine Kd.C_drewN ?_ _) | (with_reducible refine Kd.C_drew ?_))); (case side4 => exact (Kd.R_reads' HO325.out).2.1); rintro e w' ⟨rfl, ⟨nd, rfl⟩⟩; obtain ⟨Ao84, co84, eo84⟩ := Kd.R_slice HO320.out; subst eo84; obtain ⟨Ao85, co85, eo85⟩ := Kd.R_slice HO327.out; subst eo85) | (go_at_call 15; (with_reducible refine (laws_sameInts.calls kj2 _ _ t315 _ _ t322 true _ ?side1 ?side2 ?side3 ?side4 A48.out).mono ?_); (case side1 => repeat (first | exact (Kd.R_reads' HO320.out).2.2 | (with_reducible refine Kd.C_alloc ?_ _) | (with_reducible refine Kd.C_drewN ?_ _) | (with_reducible refine Kd.C_drew ?_))); (case side2 => exact (Kd.R_reads' HO320.out).2.1); (case side3 => repeat (first | exact (Kd.R_reads' HO327.out).2.2 | (with_reducible refine Kd.C_alloc ?_ _) | (with_reducible refine Kd.C_drewN ?_ _) | (with_reducible refine Kd.C_drew ?_))); (case side4 => exact (Kd.R_reads' HO327.out).2.1); rintro e w' ⟨rfl, ⟨nd, rfl⟩⟩))
              go_meet
              case rel => exact ⟨_, (true), (by first | rfl | (simp; done) | (simp [*]; done)), H', ⟨by have := HJ2.out; first | omega | exact Nat.le_refl _⟩, ⟨by (with_reducible repeat (first | apply Kd.R_alloc | apply Kd.R_drewN | apply Kd.R_drew)); exact Kd.R_mono HO320.out (fun _ hk => by first | trivial | exact ⟨hk.1.2, hk.2⟩ | exact hk.2 | exact hk.1 | exact hk | exact hk.1.2 | exact hk.1.1 | exact hk.2.1 | exact hk.2.2)⟩, ⟨by (with_reducible repeat (first | apply Kd.R_alloc | apply Kd.R_drewN | apply Kd.R_drew)); exact Kd.R_mono HO334.out (fun _ hk => by first | trivial | exact ⟨hk.1.1.2, hk.2⟩ | exact hk.2 | exact hk.1 | exact hk | exact hk.1.2 | exact hk.1.1 | exact hk.2.1 | exact hk.2.2)⟩, ⟨by (with_reducible repeat (first | apply Kd.R_alloc | apply Kd.R_drewN | apply Kd.R_drew)); exact Kd.R_mono HO341.out (fun _ hk => by first | trivial | exact ⟨hk.1.1.2, hk.2⟩ | exact hk.2 | exact hk.1 | exact hk | exact hk.1.2 | exact hk.1.1 | exact hk.2.1 | exact hk.2.2)⟩, ⟨by (with_reducible repeat (first | refine blk_drewN ?_ _ | refine blk_drew ?_ | refine blk_alloc ?_ _)); exact BK301.out⟩, ⟨by repeat (first | (with_reducible first | exact HB.out | apply below_alloc | apply pw_below_drewN | apply below_drew1 | refine below_set ?_ GE301.out) | exact HB.out)⟩⟩
           ·replace c49 := Bool.eq_false_iff.mpr c49
            subst c49
            have H1 : (laws_FnTimers.j1 kj2 t315 t329 t336 true) = some r := by rw [if_neg (show ¬ (false = true) by decide)] at H; exact H
            clear H
            have H := H1
            clear H1
            have H' := Aside0.mk H
            clear H
            obtain ⟨Ao86, co86, eo86⟩ := Kd.R_slice HO308.out
            subst eo86
            as_aux_lemma =>
             go_wp2_with (first | (go_at_call 14; (with_reducible refine (laws_sameTimers.calls kj2 _ _ t302 _ _ t306 true _ ?side1 ?side2 ?side3 ?side4 A41.out).mono ?_); (case side1 => repeat (first | exact (Kd.R_reads' HO304.out).2.2 | (with_reducible refine Kd.C_alloc ?_ _) | (with_reducible refine Kd.C_drewN ?_ _) | (with_reducible refine Kd.C_drew ?_))); (case side2 => exact (Kd.R_reads' HO304.out).2.1); (case side3 => repeat (first | exact (Kd.R_reads' HO308.out).2.2 | (with_reducible refine Kd.C_alloc ?_ _) | (with_reducible refine Kd.C_drewN ?_ _) | (with_reducible refine Kd.C_drew ?_))); (case side4 => exact (Kd.R_reads' HO308.out).2.1); rintro e w' ⟨rfl, ⟨nd, rfl⟩⟩; obtain ⟨Ao87, co87, eo87⟩ := Kd.R_slice HO318.out; subst eo87; obtain ⟨Ao88, co88, eo88⟩ := Kd.R_slice HO325.out; subst eo88) | (go_at_call 14; (with_reducible refine (laws_sameTimers.calls kj2 _ _ t314 _ _ t321 true _ ?side1 ?side2 ?side3 ?side4 A46.out).mono ?_); (case side1 => repeat (first | exact (Kd.R_reads' HO318.out).2.2 | (with_reducible refine Kd.C_alloc ?_ _) | (with_reducible refine Kd.C_drewN ?_ _) | (with_reducible refine Kd.C_drew ?_))); (case side2 => exact (Kd.R_reads' HO318.out).2.1); (case side3 => repeat (first | exact (Kd.R_reads' HO325.out).2.2 | (with_reducible refine Kd.C_alloc ?_ _) | (with_reducible refine Kd.C_drewN ?_ _) | (with_reducible refine Kd.C_drew ?_))); (case side4 => exact (Kd.R_reads' HO325.out).2.1); rintro e w' ⟨rfl, ⟨nd, rfl⟩⟩; obtain ⟨Ao89, co89, eo89⟩ := Kd.R_slice HO320.out; subst eo89; obtain ⟨Ao90, co90, eo90⟩ := Kd.R_slice HO327.out; subst eo90) | (go_at_call 15; (with_reducible refine (laws_sameInts.calls kj2 _ _ t315 _ _ t322 false _ ?side1 ?side2 ?side3 ?side4 A48.out).mono ?_); (case side1 => repeat (first | exact (Kd.R_reads' HO320.out).2.2 | (with_reducible refine Kd.C_alloc ?_ _) | (with_reducible refine Kd.C_drewN ?_ _) | (with_reducible refine Kd.C_drew ?_))); (case side2 => exact (Kd.R_reads' HO320.out).2.1); (case side3 => repeat (first | exact (Kd.R_reads' HO327.out).2.2 | (with_reducible refine Kd.C_alloc ?_ _) | (with_reducible refine Kd.C_drewN ?_ _) | (with_reducible refine Kd.C_drew ?_))); (case side4 => exact (Kd.R_reads' HO327.out).2.1); rintro e w' ⟨rfl, ⟨nd, rfl⟩⟩))
             go_meet
             case rel => exact ⟨_, (true), (by first | rfl | (simp; done) | (simp [*]; done)), H', ⟨by have := HJ2.out; first | omega | exact Nat.le_refl _⟩, ⟨by (with_reducible repeat (first | apply Kd.R_alloc | apply Kd.R_drewN | apply Kd.R_drew)); exact Kd.R_mono HO320.out (fun _ hk => by first | trivial | exact ⟨hk.1.2, hk.2⟩ | exact hk.2 | exact hk.1 | exact hk | exact hk.1.2 | exact hk.1.1 | exact hk.2.1 | exact hk.2.2)⟩, ⟨by (with_reducible repeat (first | apply Kd.R_alloc | apply Kd.R_drewN | apply Kd.R_drew)); exact Kd.R_mono HO334.out (fun _ hk => by first | trivial | exact ⟨hk.1.1.2, hk.2⟩ | exact hk.2 | exact hk.1 | exact hk | exact hk.1.2 | exact hk.1.1 | exact hk.2.1 | exact hk.2.2)⟩, ⟨by (with_reducible repeat (first | apply Kd.R_alloc | apply Kd.R_drewN | apply Kd.R_drew)); exact Kd.R_mono HO341.out (fun _ hk => by first | trivial | exact ⟨hk.1.1.2, hk.2⟩ | exact hk.2 | exact hk.1 | exact hk | exact hk.1.2 | exact hk.1.1 | exact hk.2.1 | exact hk.2.2)⟩, ⟨by (with_reducible repeat (first | refine blk_drewN ?_ _ | refine blk_drew ?_ | refine blk_alloc ?_ _)); exact BK301.out⟩, ⟨by repeat (first | (with_reducible first | exact HB.out | apply below_alloc | apply pw_below_drewN | apply below_drew1 | refine below_set ?_ GE301.out) | exact HB.out)⟩⟩
          ·replace c47 := Bool.eq_false_iff.mpr c47
           subst c47
           have H1 : (laws_FnTimers.j1 kj2 t315 t329 t336 true) = some r := by rw [if_neg (show ¬ (false = true) by decide)] at H; exact H
           clear H
           have H := H1
           clear H1
           have H' := Aside0.mk H
           clear H
           obtain ⟨Ao91, co91, eo91⟩ := Kd.R_slice HO308.out
           subst eo91
           as_aux_lemma =>
            go_wp2_with (first | (go_at_call 14; (with_reducible refine (laws_sameTimers.calls kj2 _ _ t302 _ _ t306 true _ ?side1 ?side2 ?side3 ?side4 A41.out).mono ?_); (case side1 => repeat (first | exact (Kd.R_reads' HO304.out).2.2 | (with_reducible refine Kd.C_alloc ?_ _) | (with_reducible refine Kd.C_drewN ?_ _) | (with_reducible refine Kd.C_drew ?_))); (case side2 => exact (Kd.R_reads' HO304.out).2.1); (case side3 => repeat (first | exact (Kd.R_reads' HO308.out).2.2 | (with_reducible refine Kd.C_alloc ?_ _) | (with_reducible refine Kd.C_drewN ?_ _) | (with_reducible refine Kd.C_drew ?_))); (case side4 => exact (Kd.R_reads' HO308.out).2.1); rintro e w' ⟨rfl, ⟨nd, rfl⟩⟩; obtain ⟨Ao92, co92, eo92⟩ := Kd.R_slice HO318.out; subst eo92; obtain ⟨Ao93, co93, eo93⟩ := Kd.R_slice HO325.out; subst eo93) | (go_at_call 14; (with_reducible refine (laws_sameTimers.calls kj2 _ _ t314 _ _ t321 false _ ?side1 ?side2 ?side3 ?side4 A46.out).mono ?_); (case side1 => repeat (first | exact (Kd.R_reads' HO318.out).2.2 | (with_reducible refine Kd.C_alloc ?_ _) | (with_reducible refine Kd.C_drewN ?_ _) | (with_reducible refine Kd.C_drew ?_))); (case side2 => exact (Kd.R_reads' HO318.out).2.1); (case side3 => repeat (first | exact (Kd.R_reads' HO325.out).2.2 | (with_reducible refine Kd.C_alloc ?_ _) | (with_reducible refine Kd.C_drewN ?_ _) | (with_reducible refine Kd.C_drew ?_))); (case side4 => exact (Kd.R_reads' HO325.out).2.1); rintro e w' ⟨rfl, ⟨nd, rfl⟩⟩))
            go_meet
            case rel => exact ⟨_, (true), (by first | rfl | (simp; done) | (simp [*]; done)), H', ⟨by have := HJ2.out; first | omega | exact Nat.le_refl _⟩, ⟨by (with_reducible repeat (first | apply Kd.R_alloc | apply Kd.R_drewN | apply Kd.R_drew)); exact Kd.R_mono HO320.out (fun _ hk => by first | trivial | exact ⟨hk.1.2, hk.2⟩ | exact hk.2 | exact hk.1 | exact hk | exact hk.1.2 | exact hk.1.1 | exact hk.2.1 | exact hk.2.2)⟩, ⟨by (with_reducible repeat (first | apply Kd.R_alloc | apply Kd.R_drewN | apply Kd.R_drew)); exact Kd.R_mono HO334.out (fun _ hk => by first | trivial | exact ⟨hk.1.1.2, hk.2⟩ | exact hk.2 | exact hk.1 | exact hk | exact hk.1.2 | exact hk.1.1 | exact hk.2.1 | exact hk.2.2)⟩, ⟨by (with_reducible repeat (first | apply Kd.R_alloc | apply Kd.R_drewN | apply Kd.R_drew)); exact Kd.R_mono HO341.out (fun _ hk => by first | trivial | exact ⟨hk.1.1.2, hk.2⟩ | exact hk.2 | exact hk.1 | exact hk | exact hk.1.2 | exact hk.1.1 | exact hk.2.1 | exact hk.2.2)⟩, ⟨by (with_reducible repeat (first | refine blk_drewN ?_ _ | refine blk_drew ?_ | refine blk_alloc ?_ _)); exact BK301.out⟩, ⟨by repeat (first | (with_reducible first | exact HB.out | apply below_alloc | apply pw_below_drewN | apply below_drew1 | refine below_set ?_ GE301.out) | exact HB.out)⟩⟩
         ·rw [if_neg c45] at H
          have c45b0 : (t316 == 0) = false := beq_eq_false_iff_ne.mpr c45
          have c45b1 : (t316 != 0) = true := bne_iff_ne.mpr c45
          have H' := Aside0.mk H
          clear H
          obtain ⟨Ao94, co94, eo94⟩ := Kd.R_slice HO308.out
          subst eo94
          as_aux_lemma =>
           go_wp2_with (first | (go_at_call 14; (with_reducible refine (laws_sameTimers.calls kj2 _ _ t302 _ _ t306 true _ ?side1 ?side2 ?side3 ?side4 A41.out).mono ?_); (case side1 => repeat (first | exact (Kd.R_reads' HO304.out).2.2 | (with_reducible refine Kd.C_alloc ?_ _) | (with_reducible refine Kd.C_drewN ?_ _) | (with_reducible refine Kd.C_drew ?_))); (case side2 => exact (Kd.R_reads' HO304.out).2.1); (case side3 => repeat (first | exact (Kd.R_reads' HO308.out).2.2 | (with_reducible refine Kd.C_alloc ?_ _) | (with_reducible refine Kd.C_drewN ?_ _) | (with_reducible refine Kd.C_drew ?_))); (case side4 => exact (Kd.R_reads' HO308.out).2.1); rintro e w' ⟨rfl, ⟨nd, rfl⟩⟩))
           go_meet
           case rel => exact ⟨_, (true), (by first | rfl | (simp; done) | (simp [*]; done)), H', ⟨by have := HJ2.out; first | omega | exact Nat.le_refl _⟩, ⟨by (with_reducible repeat (first | apply Kd.R_alloc | apply Kd.R_drewN | apply Kd.R_drew)); exact Kd.R_mono HO320.out (fun _ hk => by first | trivial | exact ⟨hk.1.2, hk.2⟩ | exact hk.2 | exact hk.1 | exact hk | exact hk.1.2 | exact hk.1.1 | exact hk.2.1 | exact hk.2.2)⟩, ⟨by (with_reducible repeat (first | apply Kd.R_alloc | apply Kd.R_drewN | apply Kd.R_drew)); exact Kd.R_mono HO334.out (fun _ hk => by first | trivial | exact ⟨hk.1.1.2, hk.2⟩ | exact hk.2 | exact hk.1 | exact hk | exact hk.1.2 | exact hk.1.1 | exact hk.2.1 | exact hk.2.2)⟩, ⟨by (with_reducible repeat (first | apply Kd.R_alloc | apply Kd.R_drewN | apply Kd.R_drew)); exact Kd.R_mono HO341.out (fun _ hk => by first | trivial | exact ⟨hk.1.1.2, hk.2⟩ | exact hk.2 | exact hk.1 | exact hk | exact hk.1.2 | exact hk.1.1 | exact hk.2.1 | exact hk.2.2)⟩, ⟨by (with_reducible repeat (first | refine blk_drewN ?_ _ | refine blk_drew ?_ | refine blk_alloc ?_ _)); exact BK301.out⟩, ⟨by repeat (first | (with_reducible first | exact HB.out | apply below_alloc | apply pw_below_drewN | apply below_drew1 | refine below_set ?_ GE301.out) | exact HB.out)⟩⟩
        ·rw [if_neg c44] at H
         have c44b0 : ((t310.length : Int) == (t302.length : Int)) = false := beq_eq_false_iff_ne.mpr c44
         have c44b1 : ((t310.length : Int) != (t302.length : Int)) = true := bne_iff_ne.mpr c44
         have c44b2 : (t310.length == t302.length) = false := by first | simpa using c44 | (simp at c44 ⊢; omega)
         have H' := Aside0.mk H
         clear H
         obtain ⟨Ao95, co95, eo95⟩ := Kd.R_slice HO308.out
         subst eo95
         as_aux_lemma =>
          go_wp2_with (first | (go_at_call 14; (with_reducible refine (laws_sameTimers.calls kj2 _ _ t302 _ _ t306 true _ ?side1 ?side2 ?side3 ?side4 A41.out).mono ?_); (case side1 => repeat (first | exact (Kd.R_reads' HO304.out).2.2 | (with_reducible refine Kd.C_alloc ?_ _) | (with_reducible refine Kd.C_drewN ?_ _) | (with_reducible refine Kd.C_drew ?_))); (case side2 => exact (Kd.R_reads' HO304.out).2.1); (case side3 => repeat (first | exact (Kd.R_reads' HO308.out).2.2 | (with_reducible refine Kd.C_alloc ?_ _) | (with_reducible refine Kd.C_drewN ?_ _) | (with_reducible refine Kd.C_drew ?_))); (case side4 => exact (Kd.R_reads' HO308.out).2.1); rintro e w' ⟨rfl, ⟨nd, rfl⟩⟩))
          go_meet
          case rel => exact ⟨_, (true), (by first | rfl | (simp; done) | (simp [*]; done)), H', ⟨by have := HJ2.out; first | omega | exact Nat.le_refl _⟩, ⟨by (with_reducible repeat (first | apply Kd.R_alloc | apply Kd.R_drewN | apply Kd.R_drew)); exact Kd.R_mono HO320.out (fun _ hk => by first | trivial | exact ⟨hk.1.2, hk.2⟩ | exact hk.2 | exact hk.1 | exact hk | exact hk.1.2 | exact hk.1.1 | exact hk.2.1 | exact hk.2.2)⟩, ⟨by (with_reducible repeat (first | apply Kd.R_alloc | apply Kd.R_drewN | apply Kd.R_drew)); exact Kd.R_mono HO334.out (fun _ hk => by first | trivial | exact ⟨hk.1.1.2, hk.2⟩ | exact hk.2 | exact hk.1 | exact hk | exact hk.1.2 | exact hk.1.1 | exact hk.2.1 | exact hk.2.2)⟩, ⟨by (with_reducible repeat (first | apply Kd.R_alloc | apply Kd.R_drewN | apply Kd.R_drew)); exact Kd.R_mono HO341.out (fun _ hk => by first | trivial | exact ⟨hk.1.1.2, hk.2⟩ | exact hk.2 | exact hk.1 | exact hk | exact hk.1.2 | exact hk.1.1 | exact hk.2.1 | exact hk.2.2)⟩, ⟨by (with_reducible repeat (first | refine blk_drewN ?_ _ | refine blk_drew ?_ | refine blk_alloc ?_ _)); exact BK301.out⟩, ⟨by repeat (first | (with_reducible first | exact HB.out | apply below_alloc | apply pw_below_drewN | apply below_drew1 | refine below_set ?_ GE301.out) | exact HB.out)⟩⟩
       ·rw [if_neg c43] at H
        have c43b0 : (t313 == 0) = false := beq_eq_false_iff_ne.mpr c43
        have c43b1 : (t313 != 0) = true := bne_iff_ne.mpr c43
        have H' := Aside0.mk H
        clear H
        obtain ⟨Ao96, co96, eo96⟩ := Kd.R_slice HO308.out
        subst eo96
        as_aux_lemma =>
         go_wp2_with (first | (go_at_call 14; (with_reducible refine (laws_sameTimers.calls kj2 _ _ t302 _ _ t306 true _ ?side1 ?side2 ?side3 ?side4 A41.out).mono ?_); (case side1 => repeat (first | exact (Kd.R_reads' HO304.out).2.2 | (with_reducible refine Kd.C_alloc ?_ _) | (with_reducible refine Kd.C_drewN ?_ _) | (with_reducible refine Kd.C_drew ?_))); (case side2 => exact (Kd.R_reads' HO304.out).2.1); (case side3 => repeat (first | exact (Kd.R_reads' HO308.out).2.2 | (with_reducible refine Kd.C_alloc ?_ _) | (with_reducible refine Kd.C_drewN ?_ _) | (with_reducible refine Kd.C_drew ?_))); (case side4 => exact (Kd.R_reads' HO308.out).2.1); rintro e w' ⟨rfl, ⟨nd, rfl⟩⟩))
         go_meet
         case rel => exact ⟨_, (true), (by first | rfl | (simp; done) | (simp [*]; done)), H', ⟨by have := HJ2.out; first | omega | exact Nat.le_refl _⟩, ⟨by (with_reducible repeat (first | apply Kd.R_alloc | apply Kd.R_drewN | apply Kd.R_drew)); exact Kd.R_mono HO320.out (fun _ hk => by first | trivial | exact ⟨hk.1.2, hk.2⟩ | exact hk.2 | exact hk.1 | exact hk | exact hk.1.2 | exact hk.1.1 | exact hk.2.1 | exact hk.2.2)⟩, ⟨by (with_reducible repeat (first | apply Kd.R_alloc | apply Kd.R_drewN | apply Kd.R_drew)); exact Kd.R_mono HO334.out (fun _ hk => by first | trivial | exact ⟨hk.1.1.2, hk.2⟩ | exact hk.2 | exact hk.1 | exact hk | exact hk.1.2 | exact hk.1.1 | exact hk.2.1 | exact hk.2.2)⟩, ⟨by (with_reducible repeat (first | apply Kd.R_alloc | apply Kd.R_drewN | apply Kd.R_drew)); exact Kd.R_mono HO341.out (fun _ hk => by first | trivial | exact ⟨hk.1.1.2, hk.2⟩ | exact hk.2 | exact hk.1 | exact hk | exact hk.1.2 | exact hk.1.1 | exact hk.2.1 | exact hk.2.2)⟩, ⟨by (with_reducible repeat (first | refine blk_drewN ?_ _ | refine blk_drew ?_ | refine blk_alloc ?_ _)); exact BK301.out⟩, ⟨by repeat (first | (with_reducible first | exact HB.out | apply below_alloc | apply pw_below_drewN | apply below_drew1 | refine below_set ?_ GE301.out) | exact HB.out)⟩⟩
      ·replace c42 := Bool.eq_false_iff.mpr c42
       subst c42
       have H1 : (laws_FnTimers.j1 kj2 t315 t329 t336 true) = some r := by rw [if_neg (show ¬ (false = true) by decide)] at H; exact H
       clear H
       have H := H1
       clear H1
       have H' := Aside0.mk H
       clear H
       obtain ⟨Ao97, co97, eo97⟩ := Kd.R_slice HO308.out
       subst eo97
       as_aux_lemma =>
        go_wp2_with (first | (go_at_call 14; (with_reducible refine (laws_sameTimers.calls kj2 _ _ t302 _ _ t306 false _ ?side1 ?side2 ?side3 ?side4 A41.out).mono ?_); (case side1 => repeat (first | exact (Kd.R_reads' HO304.out).2.2 | (with_reducible refine Kd.C_alloc ?_ _) | (with_reducible refine Kd.C_drewN ?_ _) | (with_reducible refine Kd.C_drew ?_))); (case side2 => exact (Kd.R_reads' HO304.out).2.1); (case side3 => repeat (first | exact (Kd.R_reads' HO308.out).2.2 | (with_reducible refine Kd.C_alloc ?_ _) | (with_reducible refine Kd.C_drewN ?_ _) | (with_reducible refine Kd.C_drew ?_))); (case side4 => exact (Kd.R_reads' HO308.out).2.1); rintro e w' ⟨rfl, ⟨nd, rfl⟩⟩))
        go_meet
        case rel => exact ⟨_, (true), (by first | rfl | (simp; done) | (simp [*]; done)), H', ⟨by have := HJ2.out; first | omega | exact Nat.le_refl _⟩, ⟨by (with_reducible repeat (first | apply Kd.R_alloc | apply Kd.R_drewN | apply Kd.R_drew)); exact Kd.R_mono HO320.out (fun _ hk => by first | trivial | exact ⟨hk.1.2, hk.2⟩ | exact hk.2 | exact hk.1 | exact hk | exact hk.1.2 | exact hk.1.1 | exact hk.2.1 | exact hk.2.2)⟩, ⟨by (with_reducible repeat (first | apply Kd.R_alloc | apply Kd.R_drewN | apply Kd.R_drew)); exact Kd.R_mono HO334.out (fun _ hk => by first | trivial | exact ⟨hk.1.1.2, hk.2⟩ | exact hk.2 | exact hk.1 | exact hk | exact hk.1.2 | exact hk.1.1 | exact hk.2.1 | exact hk.2.2)⟩, ⟨by (with_reducible repeat (first | apply Kd.R_alloc | apply Kd.R_drewN | apply Kd.R_drew)); exact Kd.R_mono HO341.out (fun _ hk => by first | trivial | exact ⟨hk.1.1.2, hk.2⟩ | exact hk.2 | exact hk.1 | exact hk | exact hk.1.2 | exact hk.1.1 | exact hk.2.1 | exact hk.2.2)⟩, ⟨by (with_reducible repeat (first | refine blk_drewN ?_ _ | refine blk_drew ?_ | refine blk_alloc ?_ _)); exact BK301.out⟩, ⟨by repeat (first | (with_reducible first | exact HB.out | apply below_alloc | apply pw_below_drewN | apply below_drew1 | refine below_set ?_ GE301.out) | exact HB.out)⟩⟩
     ·rw [if_neg c40] at H
      have c40b0 : (t305 == 0) = false := beq_eq_false_iff_ne.mpr c40
      have c40b1 : (t305 != 0) = true := bne_iff_ne.mpr c40
      (first | rw [c40b0] | (simp only [i64_w, i32_w]; rw [c40b0]) | skip)
      have H' := Aside0.mk H
      clear H
      go_wp2
      go_meet
      case rel => exact ⟨_, (true), (by first | rfl | (simp; done) | (simp [*]; done)), H', ⟨by have := HJ2.out; first | omega | exact Nat.le_refl _⟩, ⟨by (with_reducible repeat (first | apply Kd.R_alloc | apply Kd.R_drewN | apply Kd.R_drew)); exact Kd.R_mono HO320.out (fun _ hk => by first | trivial | exact ⟨hk.1.2, hk.2⟩ | exact hk.2 | exact hk.1 | exact hk | exact hk.1.2 | exact hk.1.1 | exact hk.2.1 | exact hk.2.2)⟩, ⟨by (with_reducible repeat (first | apply Kd.R_alloc | apply Kd.R_drewN | apply Kd.R_drew)); exact Kd.R_mono HO334.out (fun _ hk => by first | trivial | exact ⟨hk.1.1.2, hk.2⟩ | exact hk.2 | exact hk.1 | exact hk | exact hk.1.2 | exact hk.1.1 | exact hk.2.1 | exact hk.2.2)⟩, ⟨by (with_reducible repeat (first | apply Kd.R_alloc | apply Kd.R_drewN | apply Kd.R_drew)); exact Kd.R_mono HO341.out (fun _ hk => by first | trivial | exact ⟨hk.1.1.2, hk.2⟩ | exact hk.2 | exact hk.1 | exact hk | exact hk.1.2 | exact hk.1.1 | exact hk.2.1 | exact hk.2.2)⟩, ⟨by (with_reducible repeat (first | refine blk_drewN ?_ _ | refine blk_drew ?_ | refine blk_alloc ?_ _)); exact BK301.out⟩, ⟨by repeat (first | (with_reducible first | exact HB.out | apply below_alloc | apply pw_below_drewN | apply below_drew1 | refine below_set ?_ GE301.out) | exact HB.out)⟩⟩
    case rest =>
     clear HC17
     try clear c1
     try clear p2
     try clear c3
     try clear c4
     try clear c4b0
     try clear c4b1
     try clear c5
     try clear p6
     try clear c7
     try clear c8
     try clear c9
     try clear c10
     try clear c11
     try clear c12
     try clear c13
     try clear c40
     try clear c40b0
     try clear c40b1
     try clear c42
     try clear c43
     try clear c43b0
     try clear c43b1
     try clear c44
     try clear c44b0
     try clear c44b1
     try clear c44b2
     try clear c45
     try clear c45b0
     try clear c45b1
     try clear c47
     try clear c49
     try clear c50
     try clear c50b0
     try clear c50b1
     try clear c51
     try clear c51b0
     try clear c51b1
     try clear c52
     try clear c52b0
     try clear c52b1
     try clear c54
     try clear c55
     try clear c55b0
     try clear c55b1
     try clear p64
     try clear hcz20_0
     try clear hcz20_1
     try clear hcz23_0
     try clear hcz23_1
     try clear hcz25_0
     try clear hcz25_1
     try clear hcz28_0
     try clear hcz28_1
     try clear hcz30_0
     try clear hcz30_1
     try clear hcz32_0
     try clear hcz32_1
     try clear hcz34_0
     try clear hcz34_1
     try clear hfz20_0
     try clear hfz20_1
     try clear hfz23_0
     try clear hfz23_1
     try clear hfz25_0
     try clear hfz25_1
     try clear hfz28_0
     try clear hfz28_1
     try clear hfz30_0
     try clear hfz30_1
     try clear hfz32_0
     try clear hfz32_1
     try clear hfz34_0
     try clear hfz34_1
     try clear p2
     obtain ⟨kq, x177_16, rfl, HA, HJ16, HO_14, HO_20, HO_23, BK301, HB⟩ := hcut
     cases kq with
     | zero => exact absurd HA.out (by simp [laws_FnTimers.j1])
     | succ kj16 =>
      have H := HA.out
      clear HA
      simp only [laws_FnTimers.j1] at H
      by_cases c98 : x177_16 = true
      ·subst c98
       have H1 : (some false) = some r := by rw [if_pos rfl] at H; exact H
       clear H
       have H := H1
       clear H1
       obtain rfl := Option.some.inj H
       go_wp2
       go_ret
       exact ⟨by first | rfl | (simp [errW_none, errW_some] <;> rfl) | (simp [*, errW_none, errW_some] <;> rfl), by repeat (first | (with_reducible first | exact HB.out | apply below_alloc | apply pw_below_drewN | apply below_drew1 | refine below_set ?_ GE301.out) | exact HB.out)⟩
      ·replace c98 := Bool.eq_false_iff.mpr c98
       subst c98
       have H1 : (laws_FnTimers.l0 kj16 t315 t329 t336 0 0) = some r := by rw [if_neg (show ¬ (false = true) by decide)] at H; exact H
       clear H
       have H := H1
       clear H1
       have H' := Aside0.mk H
       clear H
       go_wp2
       go_loopg [29, 30] kj16 (fun kq v29 v30 w' => ∃ (x29_3 : Int) (x30_3 : Int), v29 = .int .i64 x29_3 ∧ v30 = .int .i64 x30_3 ∧ Aside0 (laws_FnTimers.l0 kq t315 t329 t336 x29_3 x30_3 = some r) ∧ Aside0 (kq ≤ kj16) ∧ Aside0 (Kd.R (Kd.int .i64) 3 w' w.heap.size (fun k_ => some k_ ≠ (v333 : Value).ownBlock ∧ some k_ ≠ (v340 : Value).ownBlock) v319 t315) ∧ Aside0 (Kd.R (Kd.int .i64) 3 w' w.heap.size (fun k_ => some k_ ≠ (v319 : Value).ownBlock ∧ some k_ ≠ (v340 : Value).ownBlock) v333 t329) ∧ Aside0 (Kd.R (Kd.int .i64) 3 w' w.heap.size (fun k_ => some k_ ≠ (v319 : Value).ownBlock ∧ some k_ ≠ (v333 : Value).ownBlock) v340 t336) ∧ Aside0 (w'.heap[gb301]? = some (.cells #[.int .i64 t300, .int .i64 9] 27 (0, 0))) ∧ Aside0 (Below w.heap.size w w'))
       case atStart => exact ⟨(0), (0), (by first | rfl | (simp; done) | (simp [*]; done)), (by first | rfl | (simp; done) | (simp [*]; done)), H', ⟨Nat.le_refl _⟩, ⟨by (with_reducible repeat (first | apply Kd.R_alloc | apply Kd.R_drewN | apply Kd.R_drew)); exact HO_14.out⟩, ⟨by (with_reducible repeat (first | apply Kd.R_alloc | apply Kd.R_drewN | apply Kd.R_drew)); exact HO_20.out⟩, ⟨by (with_reducible repeat (first | apply Kd.R_alloc | apply Kd.R_drewN | apply Kd.R_drew)); exact HO_23.out⟩, ⟨by (with_reducible repeat (first | refine blk_drewN ?_ _ | refine blk_drew ?_ | refine blk_alloc ?_ _)); exact BK301.out⟩, ⟨by repeat (first | (with_reducible first | exact HB.out | apply below_alloc | apply pw_below_drewN | apply below_drew1 | refine below_set ?_ GE301.out) | exact HB.out)⟩⟩
       case round =>
        clear H'
        try clear c1
        try clear p2
        try clear c3
        try clear c4
        try clear c4b0
        try clear c4b1
        try clear c5
        try clear p6
        try clear c7
        try clear c8
        try clear c9
        try clear c10
        try clear c11
        try clear c12
        try clear c13
        try clear c40
        try clear c40b0
        try clear c40b1
        try clear c42
        try clear c43
        try clear c43b0
        try clear c43b1
        try clear c44
        try clear c44b0
        try clear c44b1
        try clear c44b2
        try clear c45
        try clear c45b0
        try clear c45b1
        try clear c47
        try clear c49
        try clear c50
        try clear c50b0
        try clear c50b1
        try clear c51
        try clear c51b0
        try clear c51b1
        try clear c52
        try clear c52b0
        try clear c52b1
        try clear c54
        try clear c55
        try clear c55b0
        try clear c55b1
        try clear p64
        try clear c98
        try clear hcz20_0
        try clear hcz20_1
        try clear hcz23_0
        try clear hcz23_1
        try clear hcz25_0
        try clear hcz25_1
        try clear hcz28_0
        try clear hcz28_1
        try clear hcz30_0
        try clear hcz30_1
        try clear hcz32_0
        try clear hcz32_1
        try clear hcz34_0
        try clear hcz34_1
        try clear hfz20_0
        try clear hfz20_1
        try clear hfz23_0
        try clear hfz23_1
        try clear hfz25_0
        try clear hfz25_1
        try clear hfz28_0
        try clear hfz28_1
        try clear hfz30_0
        try clear hfz30_1
        try clear hfz32_0
        try clear hfz32_1
        try clear hfz34_0
        try clear hfz34_1
        try clear p2
        try clear p6
        try clear p64
        obtain ⟨x29_3, x30_3, rfl, rfl, HA, HK3, HO_14, HO_20, HO_23, BK301, HB⟩ := hrel
        cases gk with
        | zero => exact absurd HA.out (by simp [laws_FnTimers.l0])
        | succ k3 =>
         have H := HA.out
         clear HA
         simp only [laws_FnTimers.l0] at H
         by_cases c99 : x30_3 < (t315.length : Int)
         ·rw [if_pos c99] at H
          have c99b0 : decide (x30_3 < (t315.length : Int)) = true := decide_eq_true c99
          clear c99
          by_cases c100 : 0 ≤ x30_3
          ·rw [if_pos c100] at H
           have c100b0 : decide (0 ≤ x30_3) = true := decide_eq_true c100
           clear c100
           by_cases c101 : (rd t315 x30_3) = 9
           ·rw [if_pos c101] at H
            have c101b0 : ((rd t315 x30_3) == 9) = true := beq_iff_eq.mpr c101
            have c101b1 : ((rd t315 x30_3) != 9) = false := bne_eq_false_iff_eq.mpr c101
            clear c101
            have H' := Aside0.mk H
            clear H
            obtain ⟨Ao102, co102, eo102⟩ := Kd.R_slice HO_14.out
            subst eo102
            have p354 : 0 ≤ (x30_3 : Int) := of_decide_eq_true (by first | (with_reducible assumption) | assumption)
            have q354 : x30_3 < (t315.length : Int) := of_decide_eq_true (by first | (with_reducible assumption) | assumption)
            obtain ⟨ad354, e354, hx354_0⟩ := Kd.at_int (Kd.R_reads' HO_14.out).2.2 x30_3 p354 q354
            cases e354
            replace p354 := eq_true p354
            replace q354 := eq_true q354
            go_wp2
            go_roundg k3
            case measure => have := HJ2.out; have := HJ16.out; have := HK3.out; omega
            case rel => exact ⟨(wrap64 (x29_3 + 1)), (wrap64 (x30_3 + 1)), (by first | rfl | (simp; done) | (simp [*]; done)), (by first | rfl | (simp; done) | (simp [*]; done)), H', ⟨by have := HJ2.out; have := HJ16.out; have := HK3.out; omega⟩, ⟨by (with_reducible repeat (first | apply Kd.R_alloc | apply Kd.R_drewN | apply Kd.R_drew)); exact HO_14.out⟩, ⟨by (with_reducible repeat (first | apply Kd.R_alloc | apply Kd.R_drewN | apply Kd.R_drew)); exact HO_20.out⟩, ⟨by (with_reducible repeat (first | apply Kd.R_alloc | apply Kd.R_drewN | apply Kd.R_drew)); exact HO_23.out⟩, ⟨by (with_reducible repeat (first | refine blk_drewN ?_ _ | refine blk_drew ?_ | refine blk_alloc ?_ _)); exact BK301.out⟩, ⟨by repeat (first | (with_reducible first | exact HB.out | apply below_alloc | apply pw_below_drewN | apply below_drew1 | refine below_set ?_ GE301.out) | exact HB.out)⟩⟩
           ·rw [if_neg c101] at H
            have c101b0 : ((rd t315 x30_3) == 9) = false := beq_eq_false_iff_ne.mpr c101
            have c101b1 : ((rd t315 x30_3) != 9) = true := bne_iff_ne.mpr c101
            have H' := Aside0.mk H
            clear H
            obtain ⟨Ao103, co103, eo103⟩ := Kd.R_slice HO_14.out
            subst eo103
            have p354 : 0 ≤ (x30_3 : Int) := of_decide_eq_true (by first | (with_reducible assumption) | assumption)
            have q354 : x30_3 < (t315.length : Int) := of_decide_eq_true (by first | (with_reducible assumption) | assumption)
            obtain ⟨ad354, e354, hx354_0⟩ := Kd.at_int (Kd.R_reads' HO_14.out).2.2 x30_3 p354 q354
            cases e354
            replace p354 := eq_true p354
            replace q354 := eq_true q354
            go_wp2
            go_roundg k3
            case measure => have := HJ2.out; have := HJ16.out; have := HK3.out; omega
            case rel => exact ⟨(x29_3), (wrap64 (x30_3 + 1)), (by first | rfl | (simp; done) | (simp [*]; done)), (by first | rfl | (simp; done) | (simp [*]; done)), H', ⟨by have := HJ2.out; have := HJ16.out; have := HK3.out; omega⟩, ⟨by (with_reducible repeat (first | apply Kd.R_alloc | apply Kd.R_drewN | apply Kd.R_drew)); exact HO_14.out⟩, ⟨by (with_reducible repeat (first | apply Kd.R_alloc | apply Kd.R_drewN | apply Kd.R_drew)); exact HO_20.out⟩, ⟨by (with_reducible repeat (first | apply Kd.R_alloc | apply Kd.R_drewN | apply Kd.R_drew)); exact HO_23.out⟩, ⟨by (with_reducible repeat (first | refine blk_drewN ?_ _ | refine blk_drew ?_ | refine blk_alloc ?_ _)); exact BK301.out⟩, ⟨by repeat (first | (with_reducible first | exact HB.out | apply below_alloc | apply pw_below_drewN | apply below_drew1 | refine below_set ?_ GE301.out) | exact HB.out)⟩⟩
          ·rw [if_neg c100] at H
           exact absurd H (by simp)
         ·rw [if_neg c99] at H
          have c99b0 : decide (x30_3 < (t315.length : Int)) = false := decide_eq_false c99
          clear c99
          have H' := Aside0.mk H
          clear H
          obtain ⟨Ao104, co104, eo104⟩ := Kd.R_slice HO_14.out
          subst eo104
          go_wp2
          go_loopg [31] k3 (fun kq v31 w' => ∃ (x31_4 : Int), v31 = .int .i64 x31_4 ∧ Aside0 (laws_FnTimers.l1 kq t329 t336 x29_3 x31_4 = some r) ∧ Aside0 (kq ≤ k3) ∧ Aside0 (Kd.R (Kd.int .i64) 3 w' w.heap.size (fun k_ => some k_ ≠ (v340 : Value).ownBlock) v333 t329) ∧ Aside0 (Kd.R (Kd.int .i64) 3 w' w.heap.size (fun k_ => some k_ ≠ (v333 : Value).ownBlock) v340 t336) ∧ Aside0 (w'.heap[gb301]? = some (.cells #[.int .i64 t300, .int .i64 9] 27 (0, 0))) ∧ Aside0 (Below w.heap.size w w'))
          case atStart => exact ⟨(0), (by first | rfl | (simp; done) | (simp [*]; done)), H', ⟨Nat.le_refl _⟩, ⟨by (with_reducible repeat (first | apply Kd.R_alloc | apply Kd.R_drewN | apply Kd.R_drew)); exact Kd.R_mono HO_20.out (fun _ hk => by first | trivial | exact hk.2 | exact hk.2 | exact hk.1 | exact hk | exact hk.1.2 | exact hk.1.1 | exact hk.2.1 | exact hk.2.2)⟩, ⟨by (with_reducible repeat (first | apply Kd.R_alloc | apply Kd.R_drewN | apply Kd.R_drew)); exact Kd.R_mono HO_23.out (fun _ hk => by first | trivial | exact hk.2 | exact hk.2 | exact hk.1 | exact hk | exact hk.1.2 | exact hk.1.1 | exact hk.2.1 | exact hk.2.2)⟩, ⟨by (with_reducible repeat (first | refine blk_drewN ?_ _ | refine blk_drew ?_ | refine blk_alloc ?_ _)); exact BK301.out⟩, ⟨by repeat (first | (with_reducible first | exact HB.out | apply below_alloc | apply pw_below_drewN | apply below_drew1 | refine below_set ?_ GE301.out) | exact HB.out)⟩⟩
          case round =>
           clear H'
           try clear c1
           try clear p2
           try clear c3
           try clear p3
           try clear q3
           try clear hx3
           try clear c4
           try clear c4b0
           try clear c4b1
           try clear c5
           try clear p6
           try clear c7
           try clear c8
           try clear c9
           try clear c10
           try clear c11
           try clear c12
           try clear c13
           try clear p35
           try clear q35
           try clear hx35
           try clear c40
           try clear c40b0
           try clear c40b1
           try clear c42
           try clear c43
           try clear c43b0
           try clear c43b1
           try clear c44
           try clear c44b0
           try clear c44b1
           try clear c44b2
           try clear c45
           try clear c45b0
           try clear c45b1
           try clear c47
           try clear c49
           try clear c50
           try clear c50b0
           try clear c50b1
           try clear c51
           try clear c51b0
           try clear c51b1
           try clear c52
           try clear c52b0
           try clear c52b1
           try clear c54
           try clear c55
           try clear c55b0
           try clear c55b1
           try clear p64
           try clear c98
           try clear c99
           try clear c99b0
           try clear c100
           try clear c100b0
           try clear c101
           try clear c101b0
           try clear c101b1
           try clear hcz20_0
           try clear hcz20_1
           try clear hcz23_0
           try clear hcz23_1
           try clear hcz25_0
           try clear hcz25_1
           try clear hcz28_0
           try clear hcz28_1
           try clear hcz30_0
           try clear hcz30_1
           try clear hcz32_0
           try clear hcz32_1
           try clear hcz34_0
           try clear hcz34_1
           try clear hfz20_0
           try clear hfz20_1
           try clear hfz23_0
           try clear hfz23_1
           try clear hfz25_0
           try clear hfz25_1
           try clear hfz28_0
           try clear hfz28_1
           try clear hfz30_0
           try clear hfz30_1
           try clear hfz32_0
           try clear hfz32_1
           try clear hfz34_0
           try clear hfz34_1
           try clear hx354_0
           try clear p2
           try clear p354
           try clear p6
           try clear p64
           try clear q354
           obtain ⟨x31_4, rfl, HA, HK4, HO_20, HO_23, BK301, HB⟩ := hrel
           cases gk with
           | zero => exact absurd HA.out (by simp [laws_FnTimers.l1])
           | succ k4 =>
            have H := HA.out
            clear HA
            simp only [laws_FnTimers.l1] at H
            by_cases c105 : x31_4 < (t329.length : Int)
            ·rw [if_pos c105] at H
             have c105b0 : decide (x31_4 < (t329.length : Int)) = true := decide_eq_true c105
             clear c105
             by_cases c106 : 0 ≤ x31_4
             ·rw [if_pos c106] at H
              have c106b0 : decide (0 ≤ x31_4) = true := decide_eq_true c106
              clear c106
              by_cases c107 : (rd t329 x31_4) = 9
              ·rw [if_pos c107] at H
               have c107b0 : ((rd t329 x31_4) == 9) = true := beq_iff_eq.mpr c107
               have c107b1 : ((rd t329 x31_4) != 9) = false := bne_eq_false_iff_eq.mpr c107
               clear c107
               obtain rfl := Option.some.inj H
               obtain ⟨Ao108, co108, eo108⟩ := Kd.R_slice HO_20.out
               subst eo108
               have p355 : 0 ≤ (x31_4 : Int) := of_decide_eq_true (by first | (with_reducible assumption) | assumption)
               have q355 : x31_4 < (t329.length : Int) := of_decide_eq_true (by first | (with_reducible assumption) | assumption)
               obtain ⟨ad355, e355, hx355_0⟩ := Kd.at_int (Kd.R_reads' HO_20.out).2.2 x31_4 p355 q355
               cases e355
               replace p355 := eq_true p355
               replace q355 := eq_true q355
               go_wp2
               go_ret
               exact ⟨by first | rfl | (simp [errW_none, errW_some] <;> rfl) | (simp [*, errW_none, errW_some] <;> rfl), by repeat (first | (with_reducible first | exact HB.out | apply below_alloc | apply pw_below_drewN | apply below_drew1 | refine below_set ?_ GE301.out) | exact HB.out)⟩
              ·rw [if_neg c107] at H
               have c107b0 : ((rd t329 x31_4) == 9) = false := beq_eq_false_iff_ne.mpr c107
               have c107b1 : ((rd t329 x31_4) != 9) = true := bne_iff_ne.mpr c107
               have H' := Aside0.mk H
               clear H
               obtain ⟨Ao109, co109, eo109⟩ := Kd.R_slice HO_20.out
               subst eo109
               have p355 : 0 ≤ (x31_4 : Int) := of_decide_eq_true (by first | (with_reducible assumption) | assumption)
               have q355 : x31_4 < (t329.length : Int) := of_decide_eq_true (by first | (with_reducible assumption) | assumption)
               obtain ⟨ad355, e355, hx355_0⟩ := Kd.at_int (Kd.R_reads' HO_20.out).2.2 x31_4 p355 q355
               cases e355
               replace p355 := eq_true p355
               replace q355 := eq_true q355
               go_wp2
               go_roundg k4
               case measure => have := HJ2.out; have := HJ16.out; have := HK3.out; have := HK4.out; omega
               case rel => exact ⟨(wrap64 (x31_4 + 1)), (by first | rfl | (simp; done) | (simp [*]; done)), H', ⟨by have := HJ2.out; have := HJ16.out; have := HK3.out; have := HK4.out; omega⟩, ⟨by (with_reducible repeat (first | apply Kd.R_alloc | apply Kd.R_drewN | apply Kd.R_drew)); exact HO_20.out⟩, ⟨by (with_reducible repeat (first | apply Kd.R_alloc | apply Kd.R_drewN | apply Kd.R_drew)); exact HO_23.out⟩, ⟨by (with_reducible repeat (first | refine blk_drewN ?_ _ | refine blk_drew ?_ | refine blk_alloc ?_ _)); exact BK301.out⟩, ⟨by repeat (first | (with_reducible first | exact HB.out | apply below_alloc | apply pw_below_drewN | apply below_drew1 | refine below_set ?_ GE301.out) | exact HB.out)⟩⟩
             ·rw [if_neg c106] at H
              exact absurd H (by simp)
            ·rw [if_neg c105] at H
             have c105b0 : decide (x31_4 < (t329.length : Int)) = false := decide_eq_false c105
             clear c105
             have H' := Aside0.mk H
             clear H
             obtain ⟨Ao110, co110, eo110⟩ := Kd.R_slice HO_20.out
             subst eo110
             go_wp2
             go_loopg [32] k4 (fun kq v32 w' => ∃ (x32_5 : Int), v32 = .int .i64 x32_5 ∧ Aside0 (laws_FnTimers.l2 kq t336 x29_3 x32_5 = some r) ∧ Aside0 (kq ≤ k4) ∧ Aside0 (Kd.R (Kd.int .i64) 3 w' w.heap.size (fun _ => True) v340 t336) ∧ Aside0 (w'.heap[gb301]? = some (.cells #[.int .i64 t300, .int .i64 9] 27 (0, 0))) ∧ Aside0 (Below w.heap.size w w'))
             case atStart => exact ⟨(0), (by first | rfl | (simp; done) | (simp [*]; done)), H', ⟨Nat.le_refl _⟩, ⟨by (with_reducible repeat (first | apply Kd.R_alloc | apply Kd.R_drewN | apply Kd.R_drew)); exact Kd.R_mono HO_23.out (fun _ hk => trivial)⟩, ⟨by (with_reducible repeat (first | refine blk_drewN ?_ _ | refine blk_drew ?_ | refine blk_alloc ?_ _)); exact BK301.out⟩, ⟨by repeat (first | (with_reducible first | exact HB.out | apply below_alloc | apply pw_below_drewN | apply below_drew1 | refine below_set ?_ GE301.out) | exact HB.out)⟩⟩
             case round =>
              clear H'
              try clear c1
              try clear p2
              try clear c3
              try clear p3
              try clear q3
              try clear hx3
              try clear c4
              try clear c4b0
              try clear c4b1
              try clear c5
              try clear p6
              try clear c7
              try clear c8
              try clear c9
              try clear c10
              try clear c11
              try clear c12
              try clear c13
              try clear p35
              try clear q35
              try clear hx35
              try clear c40
              try clear c40b0
              try clear c40b1
              try clear c42
              try clear c43
              try clear c43b0
              try clear c43b1
              try clear c44
              try clear c44b0
              try clear c44b1
              try clear c44b2
              try clear c45
              try clear c45b0
              try clear c45b1
              try clear c47
              try clear c49
              try clear c50
              try clear c50b0
              try clear c50b1
              try clear c51
              try clear c51b0
              try clear c51b1
              try clear c52
              try clear c52b0
              try clear c52b1
              try clear c54
              try clear c55
              try clear c55b0
              try clear c55b1
              try clear p64
              try clear c98
              try clear c99
              try clear c99b0
              try clear c100
              try clear c100b0
              try clear c101
              try clear c101b0
              try clear c101b1
              try clear c105
              try clear c105b0
              try clear c106
              try clear c106b0
              try clear c107
              try clear c107b0
              try clear c107b1
              try clear hcz20_0
              try clear hcz20_1
              try clear hcz23_0
              try clear hcz23_1
              try clear hcz25_0
              try clear hcz25_1
              try clear hcz28_0
              try clear hcz28_1
              try clear hcz30_0
              try clear hcz30_1
              try clear hcz32_0
              try clear hcz32_1
              try clear hcz34_0
              try clear hcz34_1
              try clear hfz20_0
              try clear hfz20_1
              try clear hfz23_0
              try clear hfz23_1
              try clear hfz25_0
              try clear hfz25_1
              try clear hfz28_0
              try clear hfz28_1
              try clear hfz30_0
              try clear hfz30_1
              try clear hfz32_0
              try clear hfz32_1
              try clear hfz34_0
              try clear hfz34_1
              try clear hx354_0
              try clear hx355_0
              try clear p2
              try clear p3
              try clear p35
              try clear p354
              try clear p355
              try clear p6
              try clear p64
              try clear q3
              try clear q35
              try clear q354
              try clear q355
              obtain ⟨x32_5, rfl, HA, HK5, HO_23, BK301, HB⟩ := hrel
              cases gk with
              | zero => exact absurd HA.out (by simp [laws_FnTimers.l2])
              | succ k5 =>
               have H := HA.out
               clear HA
               simp only [laws_FnTimers.l2] at H
               by_cases c111 : x32_5 < (t336.length : Int)
               ·rw [if_pos c111] at H
                have c111b0 : decide (x32_5 < (t336.length : Int)) = true := decide_eq_true c111
                clear c111
                by_cases c112 : 0 ≤ x32_5
                ·rw [if_pos c112] at H
                 have c112b0 : decide (0 ≤ x32_5) = true := decide_eq_true c112
                 clear c112
                 by_cases c113 : (rd t336 x32_5) = 9
                 ·rw [if_pos c113] at H
                  have c113b0 : ((rd t336 x32_5) == 9) = true := beq_iff_eq.mpr c113
                  have c113b1 : ((rd t336 x32_5) != 9) = false := bne_eq_false_iff_eq.mpr c113
                  clear c113
                  obtain rfl := Option.some.inj H
                  obtain ⟨Ao114, co114, eo114⟩ := Kd.R_slice HO_23.out
                  subst eo114
                  have p356 : 0 ≤ (x32_5 : Int) := of_decide_eq_true (by first | (with_reducible assumption) | assumption)
                  have q356 : x32_5 < (t336.length : Int) := of_decide_eq_true (by first | (with_reducible assumption) | assumption)
                  obtain ⟨ad356, e356, hx356_0⟩ := Kd.at_int (Kd.R_reads' HO_23.out).2.2 x32_5 p356 q356
                  cases e356
                  replace p356 := eq_true p356
                  replace q356 := eq_true q356
                  go_wp2
                  go_ret
                  exact ⟨by first | rfl | (simp [errW_none, errW_some] <;> rfl) | (simp [*, errW_none, errW_some] <;> rfl), by repeat (first | (with_reducible first | exact HB.out | apply below_alloc | apply pw_below_drewN | apply below_drew1 | refine below_set ?_ GE301.out) | exact HB.out)⟩
                 ·rw [if_neg c113] at H
                  have c113b0 : ((rd t336 x32_5) == 9) = false := beq_eq_false_iff_ne.mpr c113
                  have c113b1 : ((rd t336 x32_5) != 9) = true := bne_iff_ne.mpr c113
                  have H' := Aside0.mk H
                  clear H
                  obtain ⟨Ao115, co115, eo115⟩ := Kd.R_slice HO_23.out
                  subst eo115
                  have p356 : 0 ≤ (x32_5 : Int) := of_decide_eq_true (by first | (with_reducible assumption) | assumption)
                  have q356 : x32_5 < (t336.length : Int) := of_decide_eq_true (by first | (with_reducible assumption) | assumption)
                  obtain ⟨ad356, e356, hx356_0⟩ := Kd.at_int (Kd.R_reads' HO_23.out).2.2 x32_5 p356 q356
                  cases e356
                  replace p356 := eq_true p356
                  replace q356 := eq_true q356
                  go_wp2
                  go_roundg k5
                  case measure => have := HJ2.out; have := HJ16.out; have := HK3.out; have := HK4.out; have := HK5.out; omega
                  case rel => exact ⟨(wrap64 (x32_5 + 1)), (by first | rfl | (simp; done) | (simp [*]; done)), H', ⟨by have := HJ2.out; have := HJ16.out; have := HK3.out; have := HK4.out; have := HK5.out; omega⟩, ⟨by (with_reducible repeat (first | apply Kd.R_alloc | apply Kd.R_drewN | apply Kd.R_drew)); exact HO_23.out⟩, ⟨by (with_reducible repeat (first | refine blk_drewN ?_ _ | refine blk_drew ?_ | refine blk_alloc ?_ _)); exact BK301.out⟩, ⟨by repeat (first | (with_reducible first | exact HB.out | apply below_alloc | apply pw_below_drewN | apply below_drew1 | refine below_set ?_ GE301.out) | exact HB.out)⟩⟩
                ·rw [if_neg c112] at H
                 exact absurd H (by simp)
               ·rw [if_neg c111] at H
                have c111b0 : decide (x32_5 < (t336.length : Int)) = false := decide_eq_false c111
                clear c111
                obtain rfl := Option.some.inj H
                obtain ⟨Ao116, co116, eo116⟩ := Kd.R_slice HO_23.out
                subst eo116
                go_wp2
                go_ret
                exact ⟨by first | rfl | (simp [errW_none, errW_some] <;> rfl) | (simp [*, errW_none, errW_some] <;> rfl), by repeat (first | (with_reducible first | exact HB.out | apply below_alloc | apply pw_below_drewN | apply below_drew1 | refine below_set ?_ GE301.out) | exact HB.out)⟩

/-- THE ONE PURE STATEMENT of laws_FnTimers: yours. -/
def laws_FnTimers.Pure : Prop := ∀ (l0 : List Int) (l1 : List Int), l0.length ≤ maxLen → l0.length * 1 ≤ 140737488351232 → (∀ x ∈ l0, (Lit.int .u8 x).wf = true) → l1.length ≤ maxLen → l1.length * 1 ≤ 140737488351232 → (∀ x ∈ l1, (Lit.int .u8 x).wf = true) → ∃ k, laws_FnTimers.f k l0 l1 = some true
theorem laws_FnTimers.walk (P : laws_FnTimers.Pure) (a0 : Option Addr) (len0 cap0 : Nat) (z0 : List Int) (a1 : Option Addr) (len1 cap1 : Nat) (z1 : List Int) (w : World) (w0 : (a0 = none ∧ len0 = 0 ∧ cap0 = 0 ∧ z0 = []) ∨ ∃ x, a0 = some x ∧ len0 ≤ cap0 ∧ cap0 ≤ maxLen ∧ z0.length = cap0 ∧ (∀ i, i < z0.length → w.cell? (x.add i) = some (.int .u8 (z0.getD i 0))) ∧ ∀ n ∈ z0, (Lit.int .u8 n).wf = true) (y0 : len0 * 1 ≤ 140737488351232) (w1 : (a1 = none ∧ len1 = 0 ∧ cap1 = 0 ∧ z1 = []) ∨ ∃ x, a1 = some x ∧ len1 ≤ cap1 ∧ cap1 ≤ maxLen ∧ z1.length = cap1 ∧ (∀ i, i < z1.length → w.cell? (x.add i) = some (.int .u8 (z1.getD i 0))) ∧ ∀ n ∈ z1, (Lit.int .u8 n).wf = true) (y1 : len1 * 1 ≤ 140737488351232) :
  Calls Try.prog 3 #[.slice a0 len0 cap0, .slice a1 len1 cap1] w fun e w' => e = .returned (.bool true) ∧ Below w.heap.size w w' := by
 obtain ⟨l0, rfl, hr0, hm0, hw0, hc0⟩ := ReadsInt.ofRowC w0
 obtain ⟨l1, rfl, hr1, hm1, hw1, hc1⟩ := ReadsInt.ofRowC w1
 obtain ⟨k, h⟩ := P l0 l1 hm0 y0 hw0 hm1 y1 hw1
 refine (laws_FnTimers.calls k _ _ l0 _ _ l1 true w (Kd.C_of_reads (d := (0 : Int)) (h1 := fun _ => rfl) hr0) hc0 (Kd.C_of_reads (d := (0 : Int)) (h1 := fun _ => rfl) hr1) hc1 h).mono ?_
 rintro e w' ⟨rfl, hd⟩
 exact ⟨rfl, hd⟩

end Go.Proofs.Ytnofpkbihecabaa.PTf
