-- Printed by this session's own program (wip/tools/myprint.py over the kit's print, out of the translation). Nothing here is trusted: Lean checks it.
import Derived.Test.YthfhflgiblmooaaZFsPx0
import Derived.Test.YthfhflgiblmooaaZFsPx3
namespace Go.Proofs.Ythfhflgiblmooaa.PFs
open Go.RowKit Go.Proofs.YthfhflgiblmooaaW.PrintWords Go.Proofs.YthfhflgiblmooaaW.PrintLast Go.Proofs.YthfhflgiblmooaaW.PrintMore
attribute [local go_sem] w64_u8 w64_u8_4 max2_int min2_int max_two min_two max_three min_three max_four min_four   -- for this text's walks alone
set_option linter.unusedVariables false
set_option linter.unusedSimpArgs false

/-! ### spec_l02SegmentBytes: function 85 -/
def spec_l02SegmentBytes.f (k : Nat) (a0 : Int) (a1 : Int) (a2_0 : Int) (a2_1 : Int) (a2_2 : Int) (a2_3 : Int) (a2_4 : Int) (a2_5 : Int) (a2_6 : ByteArray) : Option (ByteArray) := (spec_l01Number.f k a2_0 2).bind fun t214 => ((spec_l01Number.f k a2_1 2).bind fun t215 => (if t214.size + t215.size ≤ 9223372036854775807 then ((spec_l01Number.f k a2_2 4).bind fun t216 => (if (t214 ++ t215).size + t216.size ≤ 9223372036854775807 then ((spec_l01Number.f k a2_3 4).bind fun t217 => (if ((t214 ++ t215) ++ t216).size + t217.size ≤ 9223372036854775807 then (if (((t214 ++ t215) ++ t216) ++ t217).size + 1 ≤ 9223372036854775807 then ((spec_l01Number.f k a2_4 1).bind fun t218 => (if ((((t214 ++ t215) ++ t216) ++ t217) ++ (⟨#[80]⟩ : ByteArray)).size + t218.size ≤ 9223372036854775807 then ((spec_l01Number.f k a2_5 2).bind fun t219 => (if (((((t214 ++ t215) ++ t216) ++ t217) ++ (⟨#[80]⟩ : ByteArray)) ++ t218).size + t219.size ≤ 9223372036854775807 then ((spec_l02Pseudo.f k a0 a1 6 (wrap64 (20 + (a2_6.size : Int)))).bind fun t220 => (if t220.size + ((((((t214 ++ t215) ++ t216) ++ t217) ++ (⟨#[80]⟩ : ByteArray)) ++ t218) ++ t219).size ≤ 9223372036854775807 then (if (t220 ++ ((((((t214 ++ t215) ++ t216) ++ t217) ++ (⟨#[80]⟩ : ByteArray)) ++ t218) ++ t219)).size + 4 ≤ 9223372036854775807 then (if ((t220 ++ ((((((t214 ++ t215) ++ t216) ++ t217) ++ (⟨#[80]⟩ : ByteArray)) ++ t218) ++ t219)) ++ (⟨#[0, 0, 0, 0]⟩ : ByteArray)).size + a2_6.size ≤ 9223372036854775807 then ((spec_l01Sum16.f k (((t220 ++ ((((((t214 ++ t215) ++ t216) ++ t217) ++ (⟨#[80]⟩ : ByteArray)) ++ t218) ++ t219)) ++ (⟨#[0, 0, 0, 0]⟩ : ByteArray)) ++ a2_6)).bind fun t221 => ((spec_l01Number.f k t221 2).bind fun t222 => (if ((((((t214 ++ t215) ++ t216) ++ t217) ++ (⟨#[80]⟩ : ByteArray)) ++ t218) ++ t219).size + t222.size ≤ 9223372036854775807 then (if (((((((t214 ++ t215) ++ t216) ++ t217) ++ (⟨#[80]⟩ : ByteArray)) ++ t218) ++ t219) ++ t222).size + 2 ≤ 9223372036854775807 then (if ((((((((t214 ++ t215) ++ t216) ++ t217) ++ (⟨#[80]⟩ : ByteArray)) ++ t218) ++ t219) ++ t222) ++ (⟨#[0, 0]⟩ : ByteArray)).size + a2_6.size ≤ 9223372036854775807 then (some (((((((((t214 ++ t215) ++ t216) ++ t217) ++ (⟨#[80]⟩ : ByteArray)) ++ t218) ++ t219) ++ t222) ++ (⟨#[0, 0]⟩ : ByteArray)) ++ a2_6)) else (none)) else (none)) else (none)))) else (none)) else (none)) else (none))) else (none))) else (none))) else (none)) else (none))) else (none))) else (none)))
def spec_l02SegmentBytes.T1 : Bool × List (List Nat × List Nat) := (true, [([], []), ([0], [0]), ([1], [1]), ([], []), ([3], [3]), ([4, 2], [4]), ([2, 5], [2, 5]), ([], []), ([7], [7]), ([8, 5], [8]), ([6, 9], [6, 9]), ([], []), ([11], [11]), ([12, 9], [12]), ([10, 13], [10, 13]), ([14], [14]), ([], []), ([16], [16]), ([17, 13], [17]), ([15, 18], [15, 18]), ([], []), ([20], [20]), ([21, 18], [21]), ([19, 22], [19, 22]), ([23, 22, 0, 1, 2, 3, 4, 5, 6, 7, 8, 9, 10, 11, 12, 13, 14, 15, 16, 17, 18, 19, 20, 21, 22, 23], [23])])
def spec_l02SegmentBytes.B1 : List Nat := [0, 1, 3, 0, 8, 31, 63, 0, 128, 447, 1023, 0, 2048, 7103, 16383, 32767, 0, 65536, 211903, 524287, 0, 1048576, 3619775, 8388607, 16777215]
theorem spec_l02SegmentBytes.tab1 : rtab .any (opsOf Try.f85 1) = spec_l02SegmentBytes.T1 := by kernel_rfl
theorem spec_l02SegmentBytes.bits1 : waitsOk spec_l02SegmentBytes.T1.2 spec_l02SegmentBytes.B1 = true := by kernel_rfl
def spec_l02SegmentBytes.T2 : Bool × List (List Nat × List Nat) := (true, [([], []), ([], []), ([], []), ([2], [2]), ([3], [3]), ([4], [4]), ([0, 1, 5], [0, 1, 5]), ([], []), ([6, 7], [6, 7]), ([8], [8]), ([], []), ([10], [10]), ([9, 11], [9, 11]), ([12, 6], [12]), ([13, 13, 0, 1, 2, 3, 4, 5, 6, 7, 8, 9, 10, 11, 12, 13], [13])])
def spec_l02SegmentBytes.B2 : List Nat := [0, 0, 0, 4, 12, 28, 63, 0, 255, 511, 0, 1024, 4095, 8191, 16383]
theorem spec_l02SegmentBytes.tab2 : rtab .any (opsOf Try.f85 2) = spec_l02SegmentBytes.T2 := by kernel_rfl
theorem spec_l02SegmentBytes.bits2 : waitsOk spec_l02SegmentBytes.T2.2 spec_l02SegmentBytes.B2 = true := by kernel_rfl
def spec_l02SegmentBytes.T3 : Bool × List (List Nat × List Nat) := (true, [([], []), ([], []), ([1], [1]), ([0, 2], [0, 2]), ([3], [3]), ([], []), ([5], [5]), ([4, 6], [4, 6]), ([7, 2, 0, 1, 2, 3, 4, 5, 6, 7], [7])])
def spec_l02SegmentBytes.B3 : List Nat := [0, 0, 2, 7, 15, 0, 32, 127, 255]
theorem spec_l02SegmentBytes.tab3 : rtab .any (opsOf Try.f85 3) = spec_l02SegmentBytes.T3 := by kernel_rfl
theorem spec_l02SegmentBytes.bits3 : waitsOk spec_l02SegmentBytes.T3.2 spec_l02SegmentBytes.B3 = true := by kernel_rfl
set_option maxHeartbeats 8000000 in
set_option maxRecDepth 100000 in
theorem spec_l02SegmentBytes.calls (k : Nat) (a0 : Int) (a1 : Int) (a2_0 : Int) (a2_1 : Int) (a2_2 : Int) (a2_3 : Int) (a2_4 : Int) (a2_5 : Int) (a2_6 : ByteArray) (r : ByteArray) (w : World) (h : spec_l02SegmentBytes.f k a0 a1 a2_0 a2_1 a2_2 a2_3 a2_4 a2_5 a2_6 = some r) :
  Calls Try.prog 85 #[.int .i64 a0, .int .i64 a1, .agg #[.int .i64 a2_0, .int .i64 a2_1, .int .i64 a2_2, .int .i64 a2_3, .int .i64 a2_4, .int .i64 a2_5, .string a2_6]] w fun e w' => e = .returned (.string r) ∧ Below w.heap.size w w' := by
 have hu67 := Try.underlying67
 have HB := Aside0.mk (Below.refl w.heap.size w)
 have H : ((spec_l01Number.f k a2_0 2).bind fun t214 => ((spec_l01Number.f k a2_1 2).bind fun t215 => (if t214.size + t215.size ≤ 9223372036854775807 then ((spec_l01Number.f k a2_2 4).bind fun t216 => (if (t214 ++ t215).size + t216.size ≤ 9223372036854775807 then ((spec_l01Number.f k a2_3 4).bind fun t217 => (if ((t214 ++ t215) ++ t216).size + t217.size ≤ 9223372036854775807 then (if (((t214 ++ t215) ++ t216) ++ t217).size + 1 ≤ 9223372036854775807 then ((spec_l01Number.f k a2_4 1).bind fun t218 => (if ((((t214 ++ t215) ++ t216) ++ t217) ++ (⟨#[80]⟩ : ByteArray)).size + t218.size ≤ 9223372036854775807 then ((spec_l01Number.f k a2_5 2).bind fun t219 => (if (((((t214 ++ t215) ++ t216) ++ t217) ++ (⟨#[80]⟩ : ByteArray)) ++ t218).size + t219.size ≤ 9223372036854775807 then ((spec_l02Pseudo.f k a0 a1 6 (wrap64 (20 + (a2_6.size : Int)))).bind fun t220 => (if t220.size + ((((((t214 ++ t215) ++ t216) ++ t217) ++ (⟨#[80]⟩ : ByteArray)) ++ t218) ++ t219).size ≤ 9223372036854775807 then (if (t220 ++ ((((((t214 ++ t215) ++ t216) ++ t217) ++ (⟨#[80]⟩ : ByteArray)) ++ t218) ++ t219)).size + 4 ≤ 9223372036854775807 then (if ((t220 ++ ((((((t214 ++ t215) ++ t216) ++ t217) ++ (⟨#[80]⟩ : ByteArray)) ++ t218) ++ t219)) ++ (⟨#[0, 0, 0, 0]⟩ : ByteArray)).size + a2_6.size ≤ 9223372036854775807 then ((spec_l01Sum16.f k (((t220 ++ ((((((t214 ++ t215) ++ t216) ++ t217) ++ (⟨#[80]⟩ : ByteArray)) ++ t218) ++ t219)) ++ (⟨#[0, 0, 0, 0]⟩ : ByteArray)) ++ a2_6)).bind fun t221 => ((spec_l01Number.f k t221 2).bind fun t222 => (if ((((((t214 ++ t215) ++ t216) ++ t217) ++ (⟨#[80]⟩ : ByteArray)) ++ t218) ++ t219).size + t222.size ≤ 9223372036854775807 then (if (((((((t214 ++ t215) ++ t216) ++ t217) ++ (⟨#[80]⟩ : ByteArray)) ++ t218) ++ t219) ++ t222).size + 2 ≤ 9223372036854775807 then (if ((((((((t214 ++ t215) ++ t216) ++ t217) ++ (⟨#[80]⟩ : ByteArray)) ++ t218) ++ t219) ++ t222) ++ (⟨#[0, 0]⟩ : ByteArray)).size + a2_6.size ≤ 9223372036854775807 then (some (((((((((t214 ++ t215) ++ t216) ++ t217) ++ (⟨#[80]⟩ : ByteArray)) ++ t218) ++ t219) ++ t222) ++ (⟨#[0, 0]⟩ : ByteArray)) ++ a2_6)) else (none)) else (none)) else (none)))) else (none)) else (none)) else (none))) else (none))) else (none))) else (none)) else (none))) else (none))) else (none)))) = some r := h
 clear h
 replace H := Option.bind_eq_some_iff.mp H
 obtain ⟨t214, A40, H⟩ := H
 replace H : ((spec_l01Number.f k a2_1 2).bind fun t215 => (if t214.size + t215.size ≤ 9223372036854775807 then ((spec_l01Number.f k a2_2 4).bind fun t216 => (if (t214 ++ t215).size + t216.size ≤ 9223372036854775807 then ((spec_l01Number.f k a2_3 4).bind fun t217 => (if ((t214 ++ t215) ++ t216).size + t217.size ≤ 9223372036854775807 then (if (((t214 ++ t215) ++ t216) ++ t217).size + 1 ≤ 9223372036854775807 then ((spec_l01Number.f k a2_4 1).bind fun t218 => (if ((((t214 ++ t215) ++ t216) ++ t217) ++ (⟨#[80]⟩ : ByteArray)).size + t218.size ≤ 9223372036854775807 then ((spec_l01Number.f k a2_5 2).bind fun t219 => (if (((((t214 ++ t215) ++ t216) ++ t217) ++ (⟨#[80]⟩ : ByteArray)) ++ t218).size + t219.size ≤ 9223372036854775807 then ((spec_l02Pseudo.f k a0 a1 6 (wrap64 (20 + (a2_6.size : Int)))).bind fun t220 => (if t220.size + ((((((t214 ++ t215) ++ t216) ++ t217) ++ (⟨#[80]⟩ : ByteArray)) ++ t218) ++ t219).size ≤ 9223372036854775807 then (if (t220 ++ ((((((t214 ++ t215) ++ t216) ++ t217) ++ (⟨#[80]⟩ : ByteArray)) ++ t218) ++ t219)).size + 4 ≤ 9223372036854775807 then (if ((t220 ++ ((((((t214 ++ t215) ++ t216) ++ t217) ++ (⟨#[80]⟩ : ByteArray)) ++ t218) ++ t219)) ++ (⟨#[0, 0, 0, 0]⟩ : ByteArray)).size + a2_6.size ≤ 9223372036854775807 then ((spec_l01Sum16.f k (((t220 ++ ((((((t214 ++ t215) ++ t216) ++ t217) ++ (⟨#[80]⟩ : ByteArray)) ++ t218) ++ t219)) ++ (⟨#[0, 0, 0, 0]⟩ : ByteArray)) ++ a2_6)).bind fun t221 => ((spec_l01Number.f k t221 2).bind fun t222 => (if ((((((t214 ++ t215) ++ t216) ++ t217) ++ (⟨#[80]⟩ : ByteArray)) ++ t218) ++ t219).size + t222.size ≤ 9223372036854775807 then (if (((((((t214 ++ t215) ++ t216) ++ t217) ++ (⟨#[80]⟩ : ByteArray)) ++ t218) ++ t219) ++ t222).size + 2 ≤ 9223372036854775807 then (if ((((((((t214 ++ t215) ++ t216) ++ t217) ++ (⟨#[80]⟩ : ByteArray)) ++ t218) ++ t219) ++ t222) ++ (⟨#[0, 0]⟩ : ByteArray)).size + a2_6.size ≤ 9223372036854775807 then (some (((((((((t214 ++ t215) ++ t216) ++ t217) ++ (⟨#[80]⟩ : ByteArray)) ++ t218) ++ t219) ++ t222) ++ (⟨#[0, 0]⟩ : ByteArray)) ++ a2_6)) else (none)) else (none)) else (none)))) else (none)) else (none)) else (none))) else (none))) else (none))) else (none)) else (none))) else (none))) else (none))) = some r := H
 have A4 := Aside0.mk A40
 clear A40
 replace H := Option.bind_eq_some_iff.mp H
 obtain ⟨t215, A50, H⟩ := H
 replace H : (if t214.size + t215.size ≤ 9223372036854775807 then ((spec_l01Number.f k a2_2 4).bind fun t216 => (if (t214 ++ t215).size + t216.size ≤ 9223372036854775807 then ((spec_l01Number.f k a2_3 4).bind fun t217 => (if ((t214 ++ t215) ++ t216).size + t217.size ≤ 9223372036854775807 then (if (((t214 ++ t215) ++ t216) ++ t217).size + 1 ≤ 9223372036854775807 then ((spec_l01Number.f k a2_4 1).bind fun t218 => (if ((((t214 ++ t215) ++ t216) ++ t217) ++ (⟨#[80]⟩ : ByteArray)).size + t218.size ≤ 9223372036854775807 then ((spec_l01Number.f k a2_5 2).bind fun t219 => (if (((((t214 ++ t215) ++ t216) ++ t217) ++ (⟨#[80]⟩ : ByteArray)) ++ t218).size + t219.size ≤ 9223372036854775807 then ((spec_l02Pseudo.f k a0 a1 6 (wrap64 (20 + (a2_6.size : Int)))).bind fun t220 => (if t220.size + ((((((t214 ++ t215) ++ t216) ++ t217) ++ (⟨#[80]⟩ : ByteArray)) ++ t218) ++ t219).size ≤ 9223372036854775807 then (if (t220 ++ ((((((t214 ++ t215) ++ t216) ++ t217) ++ (⟨#[80]⟩ : ByteArray)) ++ t218) ++ t219)).size + 4 ≤ 9223372036854775807 then (if ((t220 ++ ((((((t214 ++ t215) ++ t216) ++ t217) ++ (⟨#[80]⟩ : ByteArray)) ++ t218) ++ t219)) ++ (⟨#[0, 0, 0, 0]⟩ : ByteArray)).size + a2_6.size ≤ 9223372036854775807 then ((spec_l01Sum16.f k (((t220 ++ ((((((t214 ++ t215) ++ t216) ++ t217) ++ (⟨#[80]⟩ : ByteArray)) ++ t218) ++ t219)) ++ (⟨#[0, 0, 0, 0]⟩ : ByteArray)) ++ a2_6)).bind fun t221 => ((spec_l01Number.f k t221 2).bind fun t222 => (if ((((((t214 ++ t215) ++ t216) ++ t217) ++ (⟨#[80]⟩ : ByteArray)) ++ t218) ++ t219).size + t222.size ≤ 9223372036854775807 then (if (((((((t214 ++ t215) ++ t216) ++ t217) ++ (⟨#[80]⟩ : ByteArray)) ++ t218) ++ t219) ++ t222).size + 2 ≤ 9223372036854775807 then (if ((((((((t214 ++ t215) ++ t216) ++ t217) ++ (⟨#[80]⟩ : ByteArray)) ++ t218) ++ t219) ++ t222) ++ (⟨#[0, 0]⟩ : ByteArray)).size + a2_6.size ≤ 9223372036854775807 then (some (((((((((t214 ++ t215) ++ t216) ++ t217) ++ (⟨#[80]⟩ : ByteArray)) ++ t218) ++ t219) ++ t222) ++ (⟨#[0, 0]⟩ : ByteArray)) ++ a2_6)) else (none)) else (none)) else (none)))) else (none)) else (none)) else (none))) else (none))) else (none))) else (none)) else (none))) else (none))) else (none)) = some r := H
 have A5 := Aside0.mk A50
 clear A50
 by_cases c6 : t214.size + t215.size ≤ 9223372036854775807
 ·rw [if_pos c6] at H
  have c6b0 := eq_true c6
  have c6b1 : decide (t214.size + t215.size ≤ 9223372036854775807) = true := decide_eq_true c6
  try have c6b2 : (9223372036854775807 < t214.size + t215.size) = False := eq_false (Nat.not_lt.2 c6)
  replace H := Option.bind_eq_some_iff.mp H
  obtain ⟨t216, A70, H⟩ := H
  replace H : (if (t214 ++ t215).size + t216.size ≤ 9223372036854775807 then ((spec_l01Number.f k a2_3 4).bind fun t217 => (if ((t214 ++ t215) ++ t216).size + t217.size ≤ 9223372036854775807 then (if (((t214 ++ t215) ++ t216) ++ t217).size + 1 ≤ 9223372036854775807 then ((spec_l01Number.f k a2_4 1).bind fun t218 => (if ((((t214 ++ t215) ++ t216) ++ t217) ++ (⟨#[80]⟩ : ByteArray)).size + t218.size ≤ 9223372036854775807 then ((spec_l01Number.f k a2_5 2).bind fun t219 => (if (((((t214 ++ t215) ++ t216) ++ t217) ++ (⟨#[80]⟩ : ByteArray)) ++ t218).size + t219.size ≤ 9223372036854775807 then ((spec_l02Pseudo.f k a0 a1 6 (wrap64 (20 + (a2_6.size : Int)))).bind fun t220 => (if t220.size + ((((((t214 ++ t215) ++ t216) ++ t217) ++ (⟨#[80]⟩ : ByteArray)) ++ t218) ++ t219).size ≤ 9223372036854775807 then (if (t220 ++ ((((((t214 ++ t215) ++ t216) ++ t217) ++ (⟨#[80]⟩ : ByteArray)) ++ t218) ++ t219)).size + 4 ≤ 9223372036854775807 then (if ((t220 ++ ((((((t214 ++ t215) ++ t216) ++ t217) ++ (⟨#[80]⟩ : ByteArray)) ++ t218) ++ t219)) ++ (⟨#[0, 0, 0, 0]⟩ : ByteArray)).size + a2_6.size ≤ 9223372036854775807 then ((spec_l01Sum16.f k (((t220 ++ ((((((t214 ++ t215) ++ t216) ++ t217) ++ (⟨#[80]⟩ : ByteArray)) ++ t218) ++ t219)) ++ (⟨#[0, 0, 0, 0]⟩ : ByteArray)) ++ a2_6)).bind fun t221 => ((spec_l01Number.f k t221 2).bind fun t222 => (if ((((((t214 ++ t215) ++ t216) ++ t217) ++ (⟨#[80]⟩ : ByteArray)) ++ t218) ++ t219).size + t222.size ≤ 9223372036854775807 then (if (((((((t214 ++ t215) ++ t216) ++ t217) ++ (⟨#[80]⟩ : ByteArray)) ++ t218) ++ t219) ++ t222).size + 2 ≤ 9223372036854775807 then (if ((((((((t214 ++ t215) ++ t216) ++ t217) ++ (⟨#[80]⟩ : ByteArray)) ++ t218) ++ t219) ++ t222) ++ (⟨#[0, 0]⟩ : ByteArray)).size + a2_6.size ≤ 9223372036854775807 then (some (((((((((t214 ++ t215) ++ t216) ++ t217) ++ (⟨#[80]⟩ : ByteArray)) ++ t218) ++ t219) ++ t222) ++ (⟨#[0, 0]⟩ : ByteArray)) ++ a2_6)) else (none)) else (none)) else (none)))) else (none)) else (none)) else (none))) else (none))) else (none))) else (none)) else (none))) else (none)) = some r := H
  have A7 := Aside0.mk A70
  clear A70
  by_cases c8 : (t214 ++ t215).size + t216.size ≤ 9223372036854775807
  ·rw [if_pos c8] at H
   have c8b0 := eq_true c8
   have c8b1 : decide ((t214 ++ t215).size + t216.size ≤ 9223372036854775807) = true := decide_eq_true c8
   try have c8b2 : (9223372036854775807 < (t214 ++ t215).size + t216.size) = False := eq_false (Nat.not_lt.2 c8)
   try have c8b3 := c8b2
   try simp only [ByteArray.size_append] at c8b3
   replace H := Option.bind_eq_some_iff.mp H
   obtain ⟨t217, A90, H⟩ := H
   replace H : (if ((t214 ++ t215) ++ t216).size + t217.size ≤ 9223372036854775807 then (if (((t214 ++ t215) ++ t216) ++ t217).size + 1 ≤ 9223372036854775807 then ((spec_l01Number.f k a2_4 1).bind fun t218 => (if ((((t214 ++ t215) ++ t216) ++ t217) ++ (⟨#[80]⟩ : ByteArray)).size + t218.size ≤ 9223372036854775807 then ((spec_l01Number.f k a2_5 2).bind fun t219 => (if (((((t214 ++ t215) ++ t216) ++ t217) ++ (⟨#[80]⟩ : ByteArray)) ++ t218).size + t219.size ≤ 9223372036854775807 then ((spec_l02Pseudo.f k a0 a1 6 (wrap64 (20 + (a2_6.size : Int)))).bind fun t220 => (if t220.size + ((((((t214 ++ t215) ++ t216) ++ t217) ++ (⟨#[80]⟩ : ByteArray)) ++ t218) ++ t219).size ≤ 9223372036854775807 then (if (t220 ++ ((((((t214 ++ t215) ++ t216) ++ t217) ++ (⟨#[80]⟩ : ByteArray)) ++ t218) ++ t219)).size + 4 ≤ 9223372036854775807 then (if ((t220 ++ ((((((t214 ++ t215) ++ t216) ++ t217) ++ (⟨#[80]⟩ : ByteArray)) ++ t218) ++ t219)) ++ (⟨#[0, 0, 0, 0]⟩ : ByteArray)).size + a2_6.size ≤ 9223372036854775807 then ((spec_l01Sum16.f k (((t220 ++ ((((((t214 ++ t215) ++ t216) ++ t217) ++ (⟨#[80]⟩ : ByteArray)) ++ t218) ++ t219)) ++ (⟨#[0, 0, 0, 0]⟩ : ByteArray)) ++ a2_6)).bind fun t221 => ((spec_l01Number.f k t221 2).bind fun t222 => (if ((((((t214 ++ t215) ++ t216) ++ t217) ++ (⟨#[80]⟩ : ByteArray)) ++ t218) ++ t219).size + t222.size ≤ 9223372036854775807 then (if (((((((t214 ++ t215) ++ t216) ++ t217) ++ (⟨#[80]⟩ : ByteArray)) ++ t218) ++ t219) ++ t222).size + 2 ≤ 9223372036854775807 then (if ((((((((t214 ++ t215) ++ t216) ++ t217) ++ (⟨#[80]⟩ : ByteArray)) ++ t218) ++ t219) ++ t222) ++ (⟨#[0, 0]⟩ : ByteArray)).size + a2_6.size ≤ 9223372036854775807 then (some (((((((((t214 ++ t215) ++ t216) ++ t217) ++ (⟨#[80]⟩ : ByteArray)) ++ t218) ++ t219) ++ t222) ++ (⟨#[0, 0]⟩ : ByteArray)) ++ a2_6)) else (none)) else (none)) else (none)))) else (none)) else (none)) else (none))) else (none))) else (none))) else (none)) else (none)) = some r := H
   have A9 := Aside0.mk A90
   clear A90
   by_cases c10 : ((t214 ++ t215) ++ t216).size + t217.size ≤ 9223372036854775807
   ·rw [if_pos c10] at H
    have c10b0 := eq_true c10
    have c10b1 : decide (((t214 ++ t215) ++ t216).size + t217.size ≤ 9223372036854775807) = true := decide_eq_true c10
    try have c10b2 : (9223372036854775807 < ((t214 ++ t215) ++ t216).size + t217.size) = False := eq_false (Nat.not_lt.2 c10)
    try have c10b3 := c10b2
    try simp only [ByteArray.size_append] at c10b3
    by_cases c11 : (((t214 ++ t215) ++ t216) ++ t217).size + 1 ≤ 9223372036854775807
    ·rw [if_pos c11] at H
     have c11b0 := eq_true c11
     have c11b1 : decide ((((t214 ++ t215) ++ t216) ++ t217).size + 1 ≤ 9223372036854775807) = true := decide_eq_true c11
     try have c11b2 : (9223372036854775807 < (((t214 ++ t215) ++ t216) ++ t217).size + 1) = False := eq_false (Nat.not_lt.2 c11)
     try have c11b3 := c11b2
     try simp only [ByteArray.size_append] at c11b3
     replace H := Option.bind_eq_some_iff.mp H
     obtain ⟨t218, A120, H⟩ := H
     replace H : (if ((((t214 ++ t215) ++ t216) ++ t217) ++ (⟨#[80]⟩ : ByteArray)).size + t218.size ≤ 9223372036854775807 then ((spec_l01Number.f k a2_5 2).bind fun t219 => (if (((((t214 ++ t215) ++ t216) ++ t217) ++ (⟨#[80]⟩ : ByteArray)) ++ t218).size + t219.size ≤ 9223372036854775807 then ((spec_l02Pseudo.f k a0 a1 6 (wrap64 (20 + (a2_6.size : Int)))).bind fun t220 => (if t220.size + ((((((t214 ++ t215) ++ t216) ++ t217) ++ (⟨#[80]⟩ : ByteArray)) ++ t218) ++ t219).size ≤ 9223372036854775807 then (if (t220 ++ ((((((t214 ++ t215) ++ t216) ++ t217) ++ (⟨#[80]⟩ : ByteArray)) ++ t218) ++ t219)).size + 4 ≤ 9223372036854775807 then (if ((t220 ++ ((((((t214 ++ t215) ++ t216) ++ t217) ++ (⟨#[80]⟩ : ByteArray)) ++ t218) ++ t219)) ++ (⟨#[0, 0, 0, 0]⟩ : ByteArray)).size + a2_6.size ≤ 9223372036854775807 then ((spec_l01Sum16.f k (((t220 ++ ((((((t214 ++ t215) ++ t216) ++ t217) ++ (⟨#[80]⟩ : ByteArray)) ++ t218) ++ t219)) ++ (⟨#[0, 0, 0, 0]⟩ : ByteArray)) ++ a2_6)).bind fun t221 => ((spec_l01Number.f k t221 2).bind fun t222 => (if ((((((t214 ++ t215) ++ t216) ++ t217) ++ (⟨#[80]⟩ : ByteArray)) ++ t218) ++ t219).size + t222.size ≤ 9223372036854775807 then (if (((((((t214 ++ t215) ++ t216) ++ t217) ++ (⟨#[80]⟩ : ByteArray)) ++ t218) ++ t219) ++ t222).size + 2 ≤ 9223372036854775807 then (if ((((((((t214 ++ t215) ++ t216) ++ t217) ++ (⟨#[80]⟩ : ByteArray)) ++ t218) ++ t219) ++ t222) ++ (⟨#[0, 0]⟩ : ByteArray)).size + a2_6.size ≤ 9223372036854775807 then (some (((((((((t214 ++ t215) ++ t216) ++ t217) ++ (⟨#[80]⟩ : ByteArray)) ++ t218) ++ t219) ++ t222) ++ (⟨#[0, 0]⟩ : ByteArray)) ++ a2_6)) else (none)) else (none)) else (none)))) else (none)) else (none)) else (none))) else (none))) else (none)) = some r := H
     have A12 := Aside0.mk A120
     clear A120
     by_cases c13 : ((((t214 ++ t215) ++ t216) ++ t217) ++ (⟨#[80]⟩ : ByteArray)).size + t218.size ≤ 9223372036854775807
     ·rw [if_pos c13] at H
      have c13b0 := eq_true c13
      have c13b1 : decide (((((t214 ++ t215) ++ t216) ++ t217) ++ (⟨#[80]⟩ : ByteArray)).size + t218.size ≤ 9223372036854775807) = true := decide_eq_true c13
      try have c13b2 : (9223372036854775807 < ((((t214 ++ t215) ++ t216) ++ t217) ++ (⟨#[80]⟩ : ByteArray)).size + t218.size) = False := eq_false (Nat.not_lt.2 c13)
      try have c13b3 := c13b2
      try simp only [ByteArray.size_append, show (⟨#[80]⟩ : ByteArray).size = 1 from rfl] at c13b3
      replace H := Option.bind_eq_some_iff.mp H
      obtain ⟨t219, A140, H⟩ := H
      replace H : (if (((((t214 ++ t215) ++ t216) ++ t217) ++ (⟨#[80]⟩ : ByteArray)) ++ t218).size + t219.size ≤ 9223372036854775807 then ((spec_l02Pseudo.f k a0 a1 6 (wrap64 (20 + (a2_6.size : Int)))).bind fun t220 => (if t220.size + ((((((t214 ++ t215) ++ t216) ++ t217) ++ (⟨#[80]⟩ : ByteArray)) ++ t218) ++ t219).size ≤ 9223372036854775807 then (if (t220 ++ ((((((t214 ++ t215) ++ t216) ++ t217) ++ (⟨#[80]⟩ : ByteArray)) ++ t218) ++ t219)).size + 4 ≤ 9223372036854775807 then (if ((t220 ++ ((((((t214 ++ t215) ++ t216) ++ t217) ++ (⟨#[80]⟩ : ByteArray)) ++ t218) ++ t219)) ++ (⟨#[0, 0, 0, 0]⟩ : ByteArray)).size + a2_6.size ≤ 9223372036854775807 then ((spec_l01Sum16.f k (((t220 ++ ((((((t214 ++ t215) ++ t216) ++ t217) ++ (⟨#[80]⟩ : ByteArray)) ++ t218) ++ t219)) ++ (⟨#[0, 0, 0, 0]⟩ : ByteArray)) ++ a2_6)).bind fun t221 => ((spec_l01Number.f k t221 2).bind fun t222 => (if ((((((t214 ++ t215) ++ t216) ++ t217) ++ (⟨#[80]⟩ : ByteArray)) ++ t218) ++ t219).size + t222.size ≤ 9223372036854775807 then (if (((((((t214 ++ t215) ++ t216) ++ t217) ++ (⟨#[80]⟩ : ByteArray)) ++ t218) ++ t219) ++ t222).size + 2 ≤ 9223372036854775807 then (if ((((((((t214 ++ t215) ++ t216) ++ t217) ++ (⟨#[80]⟩ : ByteArray)) ++ t218) ++ t219) ++ t222) ++ (⟨#[0, 0]⟩ : ByteArray)).size + a2_6.size ≤ 9223372036854775807 then (some (((((((((t214 ++ t215) ++ t216) ++ t217) ++ (⟨#[80]⟩ : ByteArray)) ++ t218) ++ t219) ++ t222) ++ (⟨#[0, 0]⟩ : ByteArray)) ++ a2_6)) else (none)) else (none)) else (none)))) else (none)) else (none)) else (none))) else (none)) = some r := H
      have A14 := Aside0.mk A140
      clear A140
      by_cases c15 : (((((t214 ++ t215) ++ t216) ++ t217) ++ (⟨#[80]⟩ : ByteArray)) ++ t218).size + t219.size ≤ 9223372036854775807
      ·rw [if_pos c15] at H
       have c15b0 := eq_true c15
       have c15b1 : decide ((((((t214 ++ t215) ++ t216) ++ t217) ++ (⟨#[80]⟩ : ByteArray)) ++ t218).size + t219.size ≤ 9223372036854775807) = true := decide_eq_true c15
       try have c15b2 : (9223372036854775807 < (((((t214 ++ t215) ++ t216) ++ t217) ++ (⟨#[80]⟩ : ByteArray)) ++ t218).size + t219.size) = False := eq_false (Nat.not_lt.2 c15)
       try have c15b3 := c15b2
       try simp only [ByteArray.size_append, show (⟨#[80]⟩ : ByteArray).size = 1 from rfl] at c15b3
       replace H := Option.bind_eq_some_iff.mp H
       obtain ⟨t220, A160, H⟩ := H
       replace H : (if t220.size + ((((((t214 ++ t215) ++ t216) ++ t217) ++ (⟨#[80]⟩ : ByteArray)) ++ t218) ++ t219).size ≤ 9223372036854775807 then (if (t220 ++ ((((((t214 ++ t215) ++ t216) ++ t217) ++ (⟨#[80]⟩ : ByteArray)) ++ t218) ++ t219)).size + 4 ≤ 9223372036854775807 then (if ((t220 ++ ((((((t214 ++ t215) ++ t216) ++ t217) ++ (⟨#[80]⟩ : ByteArray)) ++ t218) ++ t219)) ++ (⟨#[0, 0, 0, 0]⟩ : ByteArray)).size + a2_6.size ≤ 9223372036854775807 then ((spec_l01Sum16.f k (((t220 ++ ((((((t214 ++ t215) ++ t216) ++ t217) ++ (⟨#[80]⟩ : ByteArray)) ++ t218) ++ t219)) ++ (⟨#[0, 0, 0, 0]⟩ : ByteArray)) ++ a2_6)).bind fun t221 => ((spec_l01Number.f k t221 2).bind fun t222 => (if ((((((t214 ++ t215) ++ t216) ++ t217) ++ (⟨#[80]⟩ : ByteArray)) ++ t218) ++ t219).size + t222.size ≤ 9223372036854775807 then (if (((((((t214 ++ t215) ++ t216) ++ t217) ++ (⟨#[80]⟩ : ByteArray)) ++ t218) ++ t219) ++ t222).size + 2 ≤ 9223372036854775807 then (if ((((((((t214 ++ t215) ++ t216) ++ t217) ++ (⟨#[80]⟩ : ByteArray)) ++ t218) ++ t219) ++ t222) ++ (⟨#[0, 0]⟩ : ByteArray)).size + a2_6.size ≤ 9223372036854775807 then (some (((((((((t214 ++ t215) ++ t216) ++ t217) ++ (⟨#[80]⟩ : ByteArray)) ++ t218) ++ t219) ++ t222) ++ (⟨#[0, 0]⟩ : ByteArray)) ++ a2_6)) else (none)) else (none)) else (none)))) else (none)) else (none)) else (none)) = some r := H
       have A16 := Aside0.mk A160
       clear A160
       by_cases c17 : t220.size + ((((((t214 ++ t215) ++ t216) ++ t217) ++ (⟨#[80]⟩ : ByteArray)) ++ t218) ++ t219).size ≤ 9223372036854775807
       ·rw [if_pos c17] at H
        have c17b0 := eq_true c17
        have c17b1 : decide (t220.size + ((((((t214 ++ t215) ++ t216) ++ t217) ++ (⟨#[80]⟩ : ByteArray)) ++ t218) ++ t219).size ≤ 9223372036854775807) = true := decide_eq_true c17
        try have c17b2 : (9223372036854775807 < t220.size + ((((((t214 ++ t215) ++ t216) ++ t217) ++ (⟨#[80]⟩ : ByteArray)) ++ t218) ++ t219).size) = False := eq_false (Nat.not_lt.2 c17)
        try have c17b3 := c17b2
        try simp only [ByteArray.size_append, show (⟨#[80]⟩ : ByteArray).size = 1 from rfl] at c17b3
        by_cases c18 : (t220 ++ ((((((t214 ++ t215) ++ t216) ++ t217) ++ (⟨#[80]⟩ : ByteArray)) ++ t218) ++ t219)).size + 4 ≤ 9223372036854775807
        ·rw [if_pos c18] at H
         have c18b0 := eq_true c18
         have c18b1 : decide ((t220 ++ ((((((t214 ++ t215) ++ t216) ++ t217) ++ (⟨#[80]⟩ : ByteArray)) ++ t218) ++ t219)).size + 4 ≤ 9223372036854775807) = true := decide_eq_true c18
         try have c18b2 : (9223372036854775807 < (t220 ++ ((((((t214 ++ t215) ++ t216) ++ t217) ++ (⟨#[80]⟩ : ByteArray)) ++ t218) ++ t219)).size + 4) = False := eq_false (Nat.not_lt.2 c18)
         try have c18b3 := c18b2
         try simp only [ByteArray.size_append, show (⟨#[80]⟩ : ByteArray).size = 1 from rfl] at c18b3
         by_cases c19 : ((t220 ++ ((((((t214 ++ t215) ++ t216) ++ t217) ++ (⟨#[80]⟩ : ByteArray)) ++ t218) ++ t219)) ++ (⟨#[0, 0, 0, 0]⟩ : ByteArray)).size + a2_6.size ≤ 9223372036854775807
         ·rw [if_pos c19] at H
          have c19b0 := eq_true c19
          have c19b1 : decide (((t220 ++ ((((((t214 ++ t215) ++ t216) ++ t217) ++ (⟨#[80]⟩ : ByteArray)) ++ t218) ++ t219)) ++ (⟨#[0, 0, 0, 0]⟩ : ByteArray)).size + a2_6.size ≤ 9223372036854775807) = true := decide_eq_true c19
          try have c19b2 : (9223372036854775807 < ((t220 ++ ((((((t214 ++ t215) ++ t216) ++ t217) ++ (⟨#[80]⟩ : ByteArray)) ++ t218) ++ t219)) ++ (⟨#[0, 0, 0, 0]⟩ : ByteArray)).size + a2_6.size) = False := eq_false (Nat.not_lt.2 c19)
          try have c19b3 := c19b2
          try simp only [ByteArray.size_append, show (⟨#[0, 0, 0, 0]⟩ : ByteArray).size = 4 from rfl, show (⟨#[80]⟩ : ByteArray).size = 1 from rfl] at c19b3
          replace H := Option.bind_eq_some_iff.mp H
          obtain ⟨t221, A200, H⟩ := H
          replace H : ((spec_l01Number.f k t221 2).bind fun t222 => (if ((((((t214 ++ t215) ++ t216) ++ t217) ++ (⟨#[80]⟩ : ByteArray)) ++ t218) ++ t219).size + t222.size ≤ 9223372036854775807 then (if (((((((t214 ++ t215) ++ t216) ++ t217) ++ (⟨#[80]⟩ : ByteArray)) ++ t218) ++ t219) ++ t222).size + 2 ≤ 9223372036854775807 then (if ((((((((t214 ++ t215) ++ t216) ++ t217) ++ (⟨#[80]⟩ : ByteArray)) ++ t218) ++ t219) ++ t222) ++ (⟨#[0, 0]⟩ : ByteArray)).size + a2_6.size ≤ 9223372036854775807 then (some (((((((((t214 ++ t215) ++ t216) ++ t217) ++ (⟨#[80]⟩ : ByteArray)) ++ t218) ++ t219) ++ t222) ++ (⟨#[0, 0]⟩ : ByteArray)) ++ a2_6)) else (none)) else (none)) else (none))) = some r := H
          have A20 := Aside0.mk A200
          clear A200
          replace H := Option.bind_eq_some_iff.mp H
          obtain ⟨t222, A210, H⟩ := H
          replace H : (if ((((((t214 ++ t215) ++ t216) ++ t217) ++ (⟨#[80]⟩ : ByteArray)) ++ t218) ++ t219).size + t222.size ≤ 9223372036854775807 then (if (((((((t214 ++ t215) ++ t216) ++ t217) ++ (⟨#[80]⟩ : ByteArray)) ++ t218) ++ t219) ++ t222).size + 2 ≤ 9223372036854775807 then (if ((((((((t214 ++ t215) ++ t216) ++ t217) ++ (⟨#[80]⟩ : ByteArray)) ++ t218) ++ t219) ++ t222) ++ (⟨#[0, 0]⟩ : ByteArray)).size + a2_6.size ≤ 9223372036854775807 then (some (((((((((t214 ++ t215) ++ t216) ++ t217) ++ (⟨#[80]⟩ : ByteArray)) ++ t218) ++ t219) ++ t222) ++ (⟨#[0, 0]⟩ : ByteArray)) ++ a2_6)) else (none)) else (none)) else (none)) = some r := H
          have A21 := Aside0.mk A210
          clear A210
          by_cases c22 : ((((((t214 ++ t215) ++ t216) ++ t217) ++ (⟨#[80]⟩ : ByteArray)) ++ t218) ++ t219).size + t222.size ≤ 9223372036854775807
          ·rw [if_pos c22] at H
           have c22b0 := eq_true c22
           have c22b1 : decide (((((((t214 ++ t215) ++ t216) ++ t217) ++ (⟨#[80]⟩ : ByteArray)) ++ t218) ++ t219).size + t222.size ≤ 9223372036854775807) = true := decide_eq_true c22
           try have c22b2 : (9223372036854775807 < ((((((t214 ++ t215) ++ t216) ++ t217) ++ (⟨#[80]⟩ : ByteArray)) ++ t218) ++ t219).size + t222.size) = False := eq_false (Nat.not_lt.2 c22)
           try have c22b3 := c22b2
           try simp only [ByteArray.size_append, show (⟨#[80]⟩ : ByteArray).size = 1 from rfl] at c22b3
           by_cases c23 : (((((((t214 ++ t215) ++ t216) ++ t217) ++ (⟨#[80]⟩ : ByteArray)) ++ t218) ++ t219) ++ t222).size + 2 ≤ 9223372036854775807
           ·rw [if_pos c23] at H
            have c23b0 := eq_true c23
            have c23b1 : decide ((((((((t214 ++ t215) ++ t216) ++ t217) ++ (⟨#[80]⟩ : ByteArray)) ++ t218) ++ t219) ++ t222).size + 2 ≤ 9223372036854775807) = true := decide_eq_true c23
            try have c23b2 : (9223372036854775807 < (((((((t214 ++ t215) ++ t216) ++ t217) ++ (⟨#[80]⟩ : ByteArray)) ++ t218) ++ t219) ++ t222).size + 2) = False := eq_false (Nat.not_lt.2 c23)
            try have c23b3 := c23b2
            try simp only [ByteArray.size_append, show (⟨#[80]⟩ : ByteArray).size = 1 from rfl] at c23b3
            by_cases c24 : ((((((((t214 ++ t215) ++ t216) ++ t217) ++ (⟨#[80]⟩ : ByteArray)) ++ t218) ++ t219) ++ t222) ++ (⟨#[0, 0]⟩ : ByteArray)).size + a2_6.size ≤ 9223372036854775807
            ·rw [if_pos c24] at H
             have c24b0 := eq_true c24
             have c24b1 : decide (((((((((t214 ++ t215) ++ t216) ++ t217) ++ (⟨#[80]⟩ : ByteArray)) ++ t218) ++ t219) ++ t222) ++ (⟨#[0, 0]⟩ : ByteArray)).size + a2_6.size ≤ 9223372036854775807) = true := decide_eq_true c24
             try have c24b2 : (9223372036854775807 < ((((((((t214 ++ t215) ++ t216) ++ t217) ++ (⟨#[80]⟩ : ByteArray)) ++ t218) ++ t219) ++ t222) ++ (⟨#[0, 0]⟩ : ByteArray)).size + a2_6.size) = False := eq_false (Nat.not_lt.2 c24)
             try have c24b3 := c24b2
             try simp only [ByteArray.size_append, show (⟨#[0, 0]⟩ : ByteArray).size = 2 from rfl, show (⟨#[80]⟩ : ByteArray).size = 1 from rfl] at c24b3
             obtain rfl := Option.some.inj H
             go_enter Try.func85, Try.ntmps85
             try go_wp2_with (first | ((with_reducible refine gate_dst (N := 5) rfl ?_); refine box_event ?hg (N := 5) ?hd (cs := #[.int .i64 a2_0, .int .i64 a2_1, .int .i64 a2_2, .int .i64 a2_3, .int .i64 a2_4, .int .i64 a2_5, .string a2_6]) (t := 67) ?hr ?_; (case hd => rfl); (case hg => rfl); (case hr => first | (go_simp; done) | (go_simp; rfl)); intro gb213 hg w25 hbox hb; have n0_ := Aside0.mk (below_step (by repeat (first | (with_reducible first | exact HB.out | apply below_alloc | apply pw_below_drewN | apply below_drew1) | exact HB.out)) hb); have n1_ := Aside0.mk (hbox); have n2_ := Aside0.mk ((by rw [hg]; exact (below_size (by repeat (first | (with_reducible first | exact HB.out | apply below_alloc | apply pw_below_drewN | apply below_drew1) | exact HB.out))) : w.heap.size ≤ gb213)); have n3_ := Aside0.mk ((by rw [hg]; exact (below_size (by repeat (first | (with_reducible first | exact HB.out | apply below_alloc | apply pw_below_drewN | apply below_drew1) | exact HB.out))) : w.heap.size ≤ gb213)); clear HB; have HB := n0_; have BK213 := n1_; have GW213 := n2_; have GE213 := n3_; clear n0_ n1_ n2_ n3_; clear hb hbox hg))
             have n0_ := Aside0.mk (blk_drew BK213.out)
             have n1_ := Aside0.mk (below_drew1 HB.out)
             clear BK213
             clear HB
             have BK213 := n0_
             have HB := n1_
             clear n0_ n1_
             refine start_ (n := 25) (S := fun w' => w'.cell? ⟨gb213, 0, none⟩ = some (.int .i64 a2_0) ∧ w'.cell? ⟨gb213, 1, none⟩ = some (.int .i64 a2_1) ∧ w'.cell? ⟨gb213, 2, none⟩ = some (.int .i64 a2_2) ∧ w'.cell? ⟨gb213, 3, none⟩ = some (.int .i64 a2_3) ∧ w'.cell? ⟨gb213, 4, none⟩ = some (.int .i64 a2_4) ∧ w'.cell? ⟨gb213, 5, none⟩ = some (.int .i64 a2_5) ∧ w'.cell? ⟨gb213, 6, none⟩ = some (.string a2_6)) (ds := []) #[false, false, false, false, false, false, false, false, false, false, false, false, false, false, false, false, false, false, false, false, false, false, false, false, false] (by kernel_rfl) rfl rfl ⟨(blk_cell BK213.out 0).trans rfl, (blk_cell BK213.out 1).trans rfl, (blk_cell BK213.out 2).trans rfl, (blk_cell BK213.out 3).trans rfl, (blk_cell BK213.out 4).trans rfl, (blk_cell BK213.out 5).trans rfl, (blk_cell BK213.out 6).trans rfl⟩ (fun hHeld => ?_); refine with_tabW spec_l02SegmentBytes.tab1 spec_l02SegmentBytes.bits1 (fun HT_ HW_ => ?_)
             generalize w25.drew = w26 at BK213 HB hHeld ⊢
             refine pure_ (i := 0) (N := some 9) (v := ?_) (a' := ?_) #[true, false, false, false, false, false, false, false, false, false, false, false, false, false, false, false, false, false, false, false, false, false, false, false, false] rfl rfl (any_of HT_.out (by kernel_rfl)) (fun _ _ _ h => h) (Or.inl ⟨by rfl, ?_⟩) ?_ ?_
             rotate_left
             ·intro w'
              go_simp
              with_reducible rfl
             rotate_left
             ·simp only [Act.put, List.setIfInBounds_toArray, List.set_cons_zero, List.set_cons_succ, i64_w, i32_w]
              rfl
             refine pure_ (i := 3) (N := some 12) (v := ?_) (a' := ?_) #[true, false, false, true, false, false, false, false, false, false, false, false, false, false, false, false, false, false, false, false, false, false, false, false, false] rfl rfl (any_of HT_.out (by kernel_rfl)) (fun _ _ _ h => h) (Or.inl ⟨by rfl, ?_⟩) ?_ ?_
             rotate_left
             ·intro w'
              go_simp
              with_reducible rfl
             rotate_left
             ·simp only [Act.put, List.setIfInBounds_toArray, List.set_cons_zero, List.set_cons_succ, i64_w, i32_w]
              rfl
             refine pure_ (i := 7) (N := some 16) (v := ?_) (a' := ?_) #[true, false, false, true, false, false, false, true, false, false, false, false, false, false, false, false, false, false, false, false, false, false, false, false, false] rfl rfl (any_of HT_.out (by kernel_rfl)) (fun _ _ _ h => h) (Or.inl ⟨by rfl, ?_⟩) ?_ ?_
             rotate_left
             ·intro w'
              go_simp
              with_reducible rfl
             rotate_left
             ·simp only [Act.put, List.setIfInBounds_toArray, List.set_cons_zero, List.set_cons_succ, i64_w, i32_w]
              rfl
             refine pure_ (i := 11) (N := some 20) (v := ?_) (a' := ?_) #[true, false, false, true, false, false, false, true, false, false, false, true, false, false, false, false, false, false, false, false, false, false, false, false, false] rfl rfl (any_of HT_.out (by kernel_rfl)) (fun _ _ _ h => h) (Or.inl ⟨by rfl, ?_⟩) ?_ ?_
             rotate_left
             ·intro w'
              go_simp
              with_reducible rfl
             rotate_left
             ·simp only [Act.put, List.setIfInBounds_toArray, List.set_cons_zero, List.set_cons_succ, i64_w, i32_w]
              rfl
             refine pure_ (i := 16) (N := some 25) (v := ?_) (a' := ?_) #[true, false, false, true, false, false, false, true, false, false, false, true, false, false, false, false, true, false, false, false, false, false, false, false, false] rfl rfl (any_of HT_.out (by kernel_rfl)) (fun _ _ _ h => h) (Or.inl ⟨by rfl, ?_⟩) ?_ ?_
             rotate_left
             ·intro w'
              go_simp
              with_reducible rfl
             rotate_left
             ·simp only [Act.put, List.setIfInBounds_toArray, List.set_cons_zero, List.set_cons_succ, i64_w, i32_w]
              rfl
             refine pure_ (i := 20) (N := some 29) (v := ?_) (a' := ?_) #[true, false, false, true, false, false, false, true, false, false, false, true, false, false, false, false, true, false, false, false, true, false, false, false, false] rfl rfl (any_of HT_.out (by kernel_rfl)) (fun _ _ _ h => h) (Or.inl ⟨by rfl, ?_⟩) ?_ ?_
             rotate_left
             ·intro w'
              go_simp
              with_reducible rfl
             rotate_left
             ·simp only [Act.put, List.setIfInBounds_toArray, List.set_cons_zero, List.set_cons_succ, i64_w, i32_w]
              rfl
             refine take_ (i := 1) (N := some 10) (v := ?_) (a' := ?_) #[true, true, false, true, false, false, false, true, false, false, false, true, false, false, false, false, true, false, false, false, true, false, false, false, false] rfl rfl (take_ofW HT_.out HW_.out (by kernel_rfl)) (fun _ _ _ h => h) (Or.inl ⟨by rfl, ?_⟩) hHeld ?_ ?_
             rotate_left
             ·rintro w' ⟨s0, s1, s2, s3, s4, s5, s6⟩
              go_simp
              with_reducible rfl
             rotate_left
             ·simp only [Act.put, List.setIfInBounds_toArray, List.set_cons_zero, List.set_cons_succ, i64_w, i32_w]
              rfl
             refine take_ (i := 4) (N := some 13) (v := ?_) (a' := ?_) #[true, true, false, true, true, false, false, true, false, false, false, true, false, false, false, false, true, false, false, false, true, false, false, false, false] rfl rfl (take_ofW HT_.out HW_.out (by kernel_rfl)) (fun _ _ _ h => h) (Or.inl ⟨by rfl, ?_⟩) hHeld ?_ ?_
             rotate_left
             ·rintro w' ⟨s0, s1, s2, s3, s4, s5, s6⟩
              go_simp
              with_reducible rfl
             rotate_left
             ·simp only [Act.put, List.setIfInBounds_toArray, List.set_cons_zero, List.set_cons_succ, i64_w, i32_w]
              rfl
             refine take_ (i := 8) (N := some 17) (v := ?_) (a' := ?_) #[true, true, false, true, true, false, false, true, true, false, false, true, false, false, false, false, true, false, false, false, true, false, false, false, false] rfl rfl (take_ofW HT_.out HW_.out (by kernel_rfl)) (fun _ _ _ h => h) (Or.inl ⟨by rfl, ?_⟩) hHeld ?_ ?_
             rotate_left
             ·rintro w' ⟨s0, s1, s2, s3, s4, s5, s6⟩
              go_simp
              with_reducible rfl
             rotate_left
             ·simp only [Act.put, List.setIfInBounds_toArray, List.set_cons_zero, List.set_cons_succ, i64_w, i32_w]
              rfl
             refine take_ (i := 12) (N := some 21) (v := ?_) (a' := ?_) #[true, true, false, true, true, false, false, true, true, false, false, true, true, false, false, false, true, false, false, false, true, false, false, false, false] rfl rfl (take_ofW HT_.out HW_.out (by kernel_rfl)) (fun _ _ _ h => h) (Or.inl ⟨by rfl, ?_⟩) hHeld ?_ ?_
             rotate_left
             ·rintro w' ⟨s0, s1, s2, s3, s4, s5, s6⟩
              go_simp
              with_reducible rfl
             rotate_left
             ·simp only [Act.put, List.setIfInBounds_toArray, List.set_cons_zero, List.set_cons_succ, i64_w, i32_w]
              rfl
             refine take_ (i := 17) (N := some 26) (v := ?_) (a' := ?_) #[true, true, false, true, true, false, false, true, true, false, false, true, true, false, false, false, true, true, false, false, true, false, false, false, false] rfl rfl (take_ofW HT_.out HW_.out (by kernel_rfl)) (fun _ _ _ h => h) (Or.inl ⟨by rfl, ?_⟩) hHeld ?_ ?_
             rotate_left
             ·rintro w' ⟨s0, s1, s2, s3, s4, s5, s6⟩
              go_simp
              with_reducible rfl
             rotate_left
             ·simp only [Act.put, List.setIfInBounds_toArray, List.set_cons_zero, List.set_cons_succ, i64_w, i32_w]
              rfl
             refine take_ (i := 21) (N := some 30) (v := ?_) (a' := ?_) #[true, true, false, true, true, false, false, true, true, false, false, true, true, false, false, false, true, true, false, false, true, true, false, false, false] rfl rfl (take_ofW HT_.out HW_.out (by kernel_rfl)) (fun _ _ _ h => h) (Or.inl ⟨by rfl, ?_⟩) hHeld ?_ ?_
             rotate_left
             ·rintro w' ⟨s0, s1, s2, s3, s4, s5, s6⟩
              go_simp
              with_reducible rfl
             rotate_left
             ·simp only [Act.put, List.setIfInBounds_toArray, List.set_cons_zero, List.set_cons_succ, i64_w, i32_w]
              rfl
             refine one_ (i := 2) (N := some 11) #[true, true, true, true, true, false, false, true, true, false, false, true, true, false, false, false, true, true, false, false, true, true, false, false, false] rfl rfl (one_of HT_.out (by kernel_rfl)) (by decide) (fun K hK => ?_)
             refine goes_ Try.func60 (by kernel_rfl) rfl #[.int .i64 a2_0, .int .i64 2] (by rfl) rfl rfl (by (try simp only [List.map_toArray, List.map_cons, List.map_nil]); first | done | rfl | (simp only [List.length_drop, List.length_take]; rfl)) ?_
             with_reducible refine (spec_l01Number.calls k a2_0 2 t214 _ A4.out).mono ?_
             rintro e w27 ⟨rfl, hb⟩
             refine ⟨_, rfl, ?_⟩
             have n0_ := Aside0.mk (blk_below (g := gb213) (o := .cells #[.int .i64 a2_0, .int .i64 a2_1, .int .i64 a2_2, .int .i64 a2_3, .int .i64 a2_4, .int .i64 a2_5, .string a2_6] 67 (0, 0)) BK213.out hb)
             have n1_ := Aside0.mk (below_step HB.out hb)
             clear BK213
             clear HB
             have BK213 := n0_
             have HB := n1_
             clear n0_ n1_
             (try clear hb)
             (try clear hb2)
             (try clear hk)
             (try clear hi)
             refine hK.out _ _ ⟨(blk_cell BK213.out 0).trans rfl, (blk_cell BK213.out 1).trans rfl, (blk_cell BK213.out 2).trans rfl, (blk_cell BK213.out 3).trans rfl, (blk_cell BK213.out 4).trans rfl, (blk_cell BK213.out 5).trans rfl, (blk_cell BK213.out 6).trans rfl⟩ (fun hHeld => ?_)
             clear hK K
             refine norm_ (a' := ?_) ?_ ?_
             rotate_left
             ·show Act.put _ (some 11) _ = _
              simp only [Act.put, List.setIfInBounds_toArray, List.set_cons_zero, List.set_cons_succ, i64_w, i32_w]
              rfl
             refine one_ (i := 5) (N := some 14) #[true, true, true, true, true, true, false, true, true, false, false, true, true, false, false, false, true, true, false, false, true, true, false, false, false] rfl rfl (one_of HT_.out (by kernel_rfl)) (by decide) (fun K hK => ?_)
             refine goes_ Try.func60 (by kernel_rfl) rfl #[.int .i64 a2_1, .int .i64 2] (by rfl) rfl rfl (by (try simp only [List.map_toArray, List.map_cons, List.map_nil]); first | done | rfl | (simp only [List.length_drop, List.length_take]; rfl)) ?_
             with_reducible refine (spec_l01Number.calls k a2_1 2 t215 _ A5.out).mono ?_
             rintro e w28 ⟨rfl, hb⟩
             refine ⟨_, rfl, ?_⟩
             have n0_ := Aside0.mk (blk_below (g := gb213) (o := .cells #[.int .i64 a2_0, .int .i64 a2_1, .int .i64 a2_2, .int .i64 a2_3, .int .i64 a2_4, .int .i64 a2_5, .string a2_6] 67 (0, 0)) BK213.out hb)
             have n1_ := Aside0.mk (below_step HB.out hb)
             clear BK213
             clear HB
             have BK213 := n0_
             have HB := n1_
             clear n0_ n1_
             (try clear hb)
             (try clear hb2)
             (try clear hk)
             (try clear hi)
             refine hK.out _ _ ⟨(blk_cell BK213.out 0).trans rfl, (blk_cell BK213.out 1).trans rfl, (blk_cell BK213.out 2).trans rfl, (blk_cell BK213.out 3).trans rfl, (blk_cell BK213.out 4).trans rfl, (blk_cell BK213.out 5).trans rfl, (blk_cell BK213.out 6).trans rfl⟩ (fun hHeld => ?_)
             clear hK K
             refine norm_ (a' := ?_) ?_ ?_
             rotate_left
             ·show Act.put _ (some 14) _ = _
              simp only [Act.put, List.setIfInBounds_toArray, List.set_cons_zero, List.set_cons_succ, i64_w, i32_w]
              rfl
             refine pure_ (i := 6) (N := some 15) (v := ?_) (a' := ?_) #[true, true, true, true, true, true, true, true, true, false, false, true, true, false, false, false, true, true, false, false, true, true, false, false, false] rfl rfl (any_of HT_.out (by kernel_rfl)) (fun _ _ _ h => h) (Or.inl ⟨by rfl, ?_⟩) ?_ ?_
             rotate_left
             ·intro w'
              go_simp
              with_reducible rfl
             rotate_left
             ·simp only [Act.put, List.setIfInBounds_toArray, List.set_cons_zero, List.set_cons_succ, i64_w, i32_w]
              rfl
             refine one_ (i := 9) (N := some 18) #[true, true, true, true, true, true, true, true, true, true, false, true, true, false, false, false, true, true, false, false, true, true, false, false, false] rfl rfl (one_of HT_.out (by kernel_rfl)) (by decide) (fun K hK => ?_)
             refine goes_ Try.func60 (by kernel_rfl) rfl #[.int .i64 a2_2, .int .i64 4] (by rfl) rfl rfl (by (try simp only [List.map_toArray, List.map_cons, List.map_nil]); first | done | rfl | (simp only [List.length_drop, List.length_take]; rfl)) ?_
             with_reducible refine (spec_l01Number.calls k a2_2 4 t216 _ A7.out).mono ?_
             rintro e w29 ⟨rfl, hb⟩
             refine ⟨_, rfl, ?_⟩
             have n0_ := Aside0.mk (blk_below (g := gb213) (o := .cells #[.int .i64 a2_0, .int .i64 a2_1, .int .i64 a2_2, .int .i64 a2_3, .int .i64 a2_4, .int .i64 a2_5, .string a2_6] 67 (0, 0)) BK213.out hb)
             have n1_ := Aside0.mk (below_step HB.out hb)
             clear BK213
             clear HB
             have BK213 := n0_
             have HB := n1_
             clear n0_ n1_
             (try clear hb)
             (try clear hb2)
             (try clear hk)
             (try clear hi)
             refine hK.out _ _ ⟨(blk_cell BK213.out 0).trans rfl, (blk_cell BK213.out 1).trans rfl, (blk_cell BK213.out 2).trans rfl, (blk_cell BK213.out 3).trans rfl, (blk_cell BK213.out 4).trans rfl, (blk_cell BK213.out 5).trans rfl, (blk_cell BK213.out 6).trans rfl⟩ (fun hHeld => ?_)
             clear hK K
             refine norm_ (a' := ?_) ?_ ?_
             rotate_left
             ·show Act.put _ (some 18) _ = _
              simp only [Act.put, List.setIfInBounds_toArray, List.set_cons_zero, List.set_cons_succ, i64_w, i32_w]
              rfl
             refine pure_ (i := 10) (N := some 19) (v := ?_) (a' := ?_) #[true, true, true, true, true, true, true, true, true, true, true, true, true, false, false, false, true, true, false, false, true, true, false, false, false] rfl rfl (any_of HT_.out (by kernel_rfl)) (fun _ _ _ h => h) (Or.inl ⟨by rfl, ?_⟩) ?_ ?_
             rotate_left
             ·intro w'
              go_simp
              with_reducible rfl
             rotate_left
             ·simp only [Act.put, List.setIfInBounds_toArray, List.set_cons_zero, List.set_cons_succ, i64_w, i32_w]
              rfl
             refine one_ (i := 13) (N := some 22) #[true, true, true, true, true, true, true, true, true, true, true, true, true, true, false, false, true, true, false, false, true, true, false, false, false] rfl rfl (one_of HT_.out (by kernel_rfl)) (by decide) (fun K hK => ?_)
             refine goes_ Try.func60 (by kernel_rfl) rfl #[.int .i64 a2_3, .int .i64 4] (by rfl) rfl rfl (by (try simp only [List.map_toArray, List.map_cons, List.map_nil]); first | done | rfl | (simp only [List.length_drop, List.length_take]; rfl)) ?_
             with_reducible refine (spec_l01Number.calls k a2_3 4 t217 _ A9.out).mono ?_
             rintro e w30 ⟨rfl, hb⟩
             refine ⟨_, rfl, ?_⟩
             have n0_ := Aside0.mk (blk_below (g := gb213) (o := .cells #[.int .i64 a2_0, .int .i64 a2_1, .int .i64 a2_2, .int .i64 a2_3, .int .i64 a2_4, .int .i64 a2_5, .string a2_6] 67 (0, 0)) BK213.out hb)
             have n1_ := Aside0.mk (below_step HB.out hb)
             clear BK213
             clear HB
             have BK213 := n0_
             have HB := n1_
             clear n0_ n1_
             (try clear hb)
             (try clear hb2)
             (try clear hk)
             (try clear hi)
             refine hK.out _ _ ⟨(blk_cell BK213.out 0).trans rfl, (blk_cell BK213.out 1).trans rfl, (blk_cell BK213.out 2).trans rfl, (blk_cell BK213.out 3).trans rfl, (blk_cell BK213.out 4).trans rfl, (blk_cell BK213.out 5).trans rfl, (blk_cell BK213.out 6).trans rfl⟩ (fun hHeld => ?_)
             clear hK K
             refine norm_ (a' := ?_) ?_ ?_
             rotate_left
             ·show Act.put _ (some 22) _ = _
              simp only [Act.put, List.setIfInBounds_toArray, List.set_cons_zero, List.set_cons_succ, i64_w, i32_w]
              rfl
             refine pure_ (i := 14) (N := some 23) (v := ?_) (a' := ?_) #[true, true, true, true, true, true, true, true, true, true, true, true, true, true, true, false, true, true, false, false, true, true, false, false, false] rfl rfl (any_of HT_.out (by kernel_rfl)) (fun _ _ _ h => h) (Or.inl ⟨by rfl, ?_⟩) ?_ ?_
             rotate_left
             ·intro w'
              go_simp
              with_reducible rfl
             rotate_left
             ·simp only [Act.put, List.setIfInBounds_toArray, List.set_cons_zero, List.set_cons_succ, i64_w, i32_w]
              rfl
             refine pure_ (i := 15) (N := some 24) (v := ?_) (a' := ?_) #[true, true, true, true, true, true, true, true, true, true, true, true, true, true, true, true, true, true, false, false, true, true, false, false, false] rfl rfl (any_of HT_.out (by kernel_rfl)) (fun _ _ _ h => h) (Or.inl ⟨by rfl, ?_⟩) ?_ ?_
             rotate_left
             ·intro w'
              go_simp
              with_reducible rfl
             rotate_left
             ·simp only [Act.put, List.setIfInBounds_toArray, List.set_cons_zero, List.set_cons_succ, i64_w, i32_w]
              rfl
             refine one_ (i := 18) (N := some 27) #[true, true, true, true, true, true, true, true, true, true, true, true, true, true, true, true, true, true, true, false, true, true, false, false, false] rfl rfl (one_of HT_.out (by kernel_rfl)) (by decide) (fun K hK => ?_)
             refine goes_ Try.func60 (by kernel_rfl) rfl #[.int .i64 a2_4, .int .i64 1] (by rfl) rfl rfl (by (try simp only [List.map_toArray, List.map_cons, List.map_nil]); first | done | rfl | (simp only [List.length_drop, List.length_take]; rfl)) ?_
             with_reducible refine (spec_l01Number.calls k a2_4 1 t218 _ A12.out).mono ?_
             rintro e w31 ⟨rfl, hb⟩
             refine ⟨_, rfl, ?_⟩
             have n0_ := Aside0.mk (blk_below (g := gb213) (o := .cells #[.int .i64 a2_0, .int .i64 a2_1, .int .i64 a2_2, .int .i64 a2_3, .int .i64 a2_4, .int .i64 a2_5, .string a2_6] 67 (0, 0)) BK213.out hb)
             have n1_ := Aside0.mk (below_step HB.out hb)
             clear BK213
             clear HB
             have BK213 := n0_
             have HB := n1_
             clear n0_ n1_
             (try clear hb)
             (try clear hb2)
             (try clear hk)
             (try clear hi)
             refine hK.out _ _ ⟨(blk_cell BK213.out 0).trans rfl, (blk_cell BK213.out 1).trans rfl, (blk_cell BK213.out 2).trans rfl, (blk_cell BK213.out 3).trans rfl, (blk_cell BK213.out 4).trans rfl, (blk_cell BK213.out 5).trans rfl, (blk_cell BK213.out 6).trans rfl⟩ (fun hHeld => ?_)
             clear hK K
             refine norm_ (a' := ?_) ?_ ?_
             rotate_left
             ·show Act.put _ (some 27) _ = _
              simp only [Act.put, List.setIfInBounds_toArray, List.set_cons_zero, List.set_cons_succ, i64_w, i32_w]
              rfl
             refine pure_ (i := 19) (N := some 28) (v := ?_) (a' := ?_) #[true, true, true, true, true, true, true, true, true, true, true, true, true, true, true, true, true, true, true, true, true, true, false, false, false] rfl rfl (any_of HT_.out (by kernel_rfl)) (fun _ _ _ h => h) (Or.inl ⟨by rfl, ?_⟩) ?_ ?_
             rotate_left
             ·intro w'
              go_simp
              with_reducible rfl
             rotate_left
             ·simp only [Act.put, List.setIfInBounds_toArray, List.set_cons_zero, List.set_cons_succ, i64_w, i32_w]
              rfl
             refine one_ (i := 22) (N := some 31) #[true, true, true, true, true, true, true, true, true, true, true, true, true, true, true, true, true, true, true, true, true, true, true, false, false] rfl rfl (one_of HT_.out (by kernel_rfl)) (by decide) (fun K hK => ?_)
             refine goes_ Try.func60 (by kernel_rfl) rfl #[.int .i64 a2_5, .int .i64 2] (by rfl) rfl rfl (by (try simp only [List.map_toArray, List.map_cons, List.map_nil]); first | done | rfl | (simp only [List.length_drop, List.length_take]; rfl)) ?_
             with_reducible refine (spec_l01Number.calls k a2_5 2 t219 _ A14.out).mono ?_
             rintro e w32 ⟨rfl, hb⟩
             refine ⟨_, rfl, ?_⟩
             have n0_ := Aside0.mk (blk_below (g := gb213) (o := .cells #[.int .i64 a2_0, .int .i64 a2_1, .int .i64 a2_2, .int .i64 a2_3, .int .i64 a2_4, .int .i64 a2_5, .string a2_6] 67 (0, 0)) BK213.out hb)
             have n1_ := Aside0.mk (below_step HB.out hb)
             clear BK213
             clear HB
             have BK213 := n0_
             have HB := n1_
             clear n0_ n1_
             (try clear hb)
             (try clear hb2)
             (try clear hk)
             (try clear hi)
             refine hK.out _ _ ⟨(blk_cell BK213.out 0).trans rfl, (blk_cell BK213.out 1).trans rfl, (blk_cell BK213.out 2).trans rfl, (blk_cell BK213.out 3).trans rfl, (blk_cell BK213.out 4).trans rfl, (blk_cell BK213.out 5).trans rfl, (blk_cell BK213.out 6).trans rfl⟩ (fun hHeld => ?_)
             clear hK K
             refine norm_ (a' := ?_) ?_ ?_
             rotate_left
             ·show Act.put _ (some 31) _ = _
              simp only [Act.put, List.setIfInBounds_toArray, List.set_cons_zero, List.set_cons_succ, i64_w, i32_w]
              rfl
             refine pure_ (i := 23) (N := some 32) (v := ?_) (a' := ?_) #[true, true, true, true, true, true, true, true, true, true, true, true, true, true, true, true, true, true, true, true, true, true, true, true, false] rfl rfl (any_of HT_.out (by kernel_rfl)) (fun _ _ _ h => h) (Or.inl ⟨by rfl, ?_⟩) ?_ ?_
             rotate_left
             ·intro w'
              go_simp
              with_reducible rfl
             rotate_left
             ·simp only [Act.put, List.setIfInBounds_toArray, List.set_cons_zero, List.set_cons_succ, i64_w, i32_w]
              rfl
             refine pure_ (i := 24) (N := some 7) (v := ?_) (a' := ?_) #[true, true, true, true, true, true, true, true, true, true, true, true, true, true, true, true, true, true, true, true, true, true, true, true, true] rfl rfl (any_of HT_.out (by kernel_rfl)) (fun _ _ _ h => h) (Or.inl ⟨by rfl, ?_⟩) ?_ ?_
             rotate_left
             ·intro w'
              go_simp
              with_reducible rfl
             rotate_left
             ·simp only [Act.put, List.setIfInBounds_toArray, List.set_cons_zero, List.set_cons_succ, i64_w, i32_w]
              rfl
             refine done_ (done_of HT_.out (by kernel_rfl)) ?_
             try go_wp2
             have n0_ := Aside0.mk (blk_drew BK213.out)
             have n1_ := Aside0.mk (below_drew1 HB.out)
             clear BK213
             clear HB
             have BK213 := n0_
             have HB := n1_
             clear n0_ n1_
             refine start_ (n := 15) (S := fun w' => w'.cell? ⟨gb213, 0, none⟩ = some (.int .i64 a2_0) ∧ w'.cell? ⟨gb213, 1, none⟩ = some (.int .i64 a2_1) ∧ w'.cell? ⟨gb213, 2, none⟩ = some (.int .i64 a2_2) ∧ w'.cell? ⟨gb213, 3, none⟩ = some (.int .i64 a2_3) ∧ w'.cell? ⟨gb213, 4, none⟩ = some (.int .i64 a2_4) ∧ w'.cell? ⟨gb213, 5, none⟩ = some (.int .i64 a2_5) ∧ w'.cell? ⟨gb213, 6, none⟩ = some (.string a2_6)) (ds := []) #[false, false, false, false, false, false, false, false, false, false, false, false, false, false, false] (by kernel_rfl) rfl rfl ⟨(blk_cell BK213.out 0).trans rfl, (blk_cell BK213.out 1).trans rfl, (blk_cell BK213.out 2).trans rfl, (blk_cell BK213.out 3).trans rfl, (blk_cell BK213.out 4).trans rfl, (blk_cell BK213.out 5).trans rfl, (blk_cell BK213.out 6).trans rfl⟩ (fun hHeld => ?_); refine with_tabW spec_l02SegmentBytes.tab2 spec_l02SegmentBytes.bits2 (fun HT_ HW_ => ?_)
             generalize w32.drew = w33 at BK213 HB hHeld ⊢
             refine pure_ (i := 0) (N := some 33) (v := ?_) (a' := ?_) #[true, false, false, false, false, false, false, false, false, false, false, false, false, false, false] rfl rfl (any_of HT_.out (by kernel_rfl)) (fun _ _ _ h => h) (Or.inl ⟨by rfl, ?_⟩) ?_ ?_
             rotate_left
             ·intro w'
              go_simp
              with_reducible rfl
             rotate_left
             ·simp only [Act.put, List.setIfInBounds_toArray, List.set_cons_zero, List.set_cons_succ, i64_w, i32_w]
              rfl
             refine pure_ (i := 1) (N := some 34) (v := ?_) (a' := ?_) #[true, true, false, false, false, false, false, false, false, false, false, false, false, false, false] rfl rfl (any_of HT_.out (by kernel_rfl)) (fun _ _ _ h => h) (Or.inl ⟨by rfl, ?_⟩) ?_ ?_
             rotate_left
             ·intro w'
              go_simp
              with_reducible rfl
             rotate_left
             ·simp only [Act.put, List.setIfInBounds_toArray, List.set_cons_zero, List.set_cons_succ, i64_w, i32_w]
              rfl
             refine pure_ (i := 2) (N := some 35) (v := ?_) (a' := ?_) #[true, true, true, false, false, false, false, false, false, false, false, false, false, false, false] rfl rfl (any_of HT_.out (by kernel_rfl)) (fun _ _ _ h => h) (Or.inl ⟨by rfl, ?_⟩) ?_ ?_
             rotate_left
             ·intro w'
              go_simp
              with_reducible rfl
             rotate_left
             ·simp only [Act.put, List.setIfInBounds_toArray, List.set_cons_zero, List.set_cons_succ, i64_w, i32_w]
              rfl
             refine pure_ (i := 7) (N := some 40) (v := ?_) (a' := ?_) #[true, true, true, false, false, false, false, true, false, false, false, false, false, false, false] rfl rfl (any_of HT_.out (by kernel_rfl)) (fun _ _ _ h => h) (Or.inl ⟨by rfl, ?_⟩) ?_ ?_
             rotate_left
             ·intro w'
              go_simp
              with_reducible rfl
             rotate_left
             ·simp only [Act.put, List.setIfInBounds_toArray, List.set_cons_zero, List.set_cons_succ, i64_w, i32_w]
              rfl
             refine pure_ (i := 10) (N := some 43) (v := ?_) (a' := ?_) #[true, true, true, false, false, false, false, true, false, false, true, false, false, false, false] rfl rfl (any_of HT_.out (by kernel_rfl)) (fun _ _ _ h => h) (Or.inl ⟨by rfl, ?_⟩) ?_ ?_
             rotate_left
             ·intro w'
              go_simp
              with_reducible rfl
             rotate_left
             ·simp only [Act.put, List.setIfInBounds_toArray, List.set_cons_zero, List.set_cons_succ, i64_w, i32_w]
              rfl
             refine take_ (i := 3) (N := some 36) (v := ?_) (a' := ?_) #[true, true, true, true, false, false, false, true, false, false, true, false, false, false, false] rfl rfl (take_ofW HT_.out HW_.out (by kernel_rfl)) (fun _ _ _ h => h) (Or.inl ⟨by rfl, ?_⟩) hHeld ?_ ?_
             rotate_left
             ·rintro w' ⟨s0, s1, s2, s3, s4, s5, s6⟩
              go_simp
              with_reducible rfl
             rotate_left
             ·simp only [Act.put, List.setIfInBounds_toArray, List.set_cons_zero, List.set_cons_succ, i64_w, i32_w]
              rfl
             refine pure_ (i := 4) (N := some 37) (v := ?_) (a' := ?_) #[true, true, true, true, true, false, false, true, false, false, true, false, false, false, false] rfl rfl (any_of HT_.out (by kernel_rfl)) (fun _ _ _ h => h) (Or.inl ⟨by rfl, ?_⟩) ?_ ?_
             rotate_left
             ·intro w'
              go_simp
              with_reducible rfl
             rotate_left
             ·simp only [Act.put, List.setIfInBounds_toArray, List.set_cons_zero, List.set_cons_succ, i64_w, i32_w]
              rfl
             refine pure_ (i := 5) (N := some 38) (v := ?_) (a' := ?_) #[true, true, true, true, true, true, false, true, false, false, true, false, false, false, false] rfl rfl (any_of HT_.out (by kernel_rfl)) (fun _ _ _ h => h) (Or.inl ⟨by rfl, ?_⟩) ?_ ?_
             rotate_left
             ·intro w'
              go_simp
              with_reducible rfl
             rotate_left
             ·simp only [Act.put, List.setIfInBounds_toArray, List.set_cons_zero, List.set_cons_succ, i64_w, i32_w]
              rfl
             refine take_ (i := 11) (N := some 44) (v := ?_) (a' := ?_) #[true, true, true, true, true, true, false, true, false, false, true, true, false, false, false] rfl rfl (take_ofW HT_.out HW_.out (by kernel_rfl)) (fun _ _ _ h => h) (Or.inl ⟨by rfl, ?_⟩) hHeld ?_ ?_
             rotate_left
             ·rintro w' ⟨s0, s1, s2, s3, s4, s5, s6⟩
              go_simp
              with_reducible rfl
             rotate_left
             ·simp only [Act.put, List.setIfInBounds_toArray, List.set_cons_zero, List.set_cons_succ, i64_w, i32_w]
              rfl
             refine one_ (i := 6) (N := some 39) #[true, true, true, true, true, true, true, true, false, false, true, true, false, false, false] rfl rfl (one_of HT_.out (by kernel_rfl)) (by decide) (fun K hK => ?_)
             refine goes_ Try.func103 (by kernel_rfl) rfl #[.int .i64 a0, .int .i64 a1, .int .i64 6, .int .i64 (wrap64 (20 + (a2_6.size : Int)))] (by rfl) rfl rfl (by (try simp only [List.map_toArray, List.map_cons, List.map_nil]); first | done | rfl | (simp only [List.length_drop, List.length_take]; rfl)) ?_
             with_reducible refine (spec_l02Pseudo.calls k a0 a1 6 (wrap64 (20 + (a2_6.size : Int))) t220 _ A16.out).mono ?_
             rintro e w34 ⟨rfl, hb⟩
             refine ⟨_, rfl, ?_⟩
             have n0_ := Aside0.mk (blk_below (g := gb213) (o := .cells #[.int .i64 a2_0, .int .i64 a2_1, .int .i64 a2_2, .int .i64 a2_3, .int .i64 a2_4, .int .i64 a2_5, .string a2_6] 67 (0, 0)) BK213.out hb)
             have n1_ := Aside0.mk (below_step HB.out hb)
             clear BK213
             clear HB
             have BK213 := n0_
             have HB := n1_
             clear n0_ n1_
             (try clear hb)
             (try clear hb2)
             (try clear hk)
             (try clear hi)
             refine hK.out _ _ ⟨(blk_cell BK213.out 0).trans rfl, (blk_cell BK213.out 1).trans rfl, (blk_cell BK213.out 2).trans rfl, (blk_cell BK213.out 3).trans rfl, (blk_cell BK213.out 4).trans rfl, (blk_cell BK213.out 5).trans rfl, (blk_cell BK213.out 6).trans rfl⟩ (fun hHeld => ?_)
             clear hK K
             refine norm_ (a' := ?_) ?_ ?_
             rotate_left
             ·show Act.put _ (some 39) _ = _
              simp only [Act.put, List.setIfInBounds_toArray, List.set_cons_zero, List.set_cons_succ, i64_w, i32_w]
              rfl
             refine pure_ (i := 8) (N := some 41) (v := ?_) (a' := ?_) #[true, true, true, true, true, true, true, true, true, false, true, true, false, false, false] rfl rfl (any_of HT_.out (by kernel_rfl)) (fun _ _ _ h => h) (Or.inl ⟨by rfl, ?_⟩) ?_ ?_
             rotate_left
             ·intro w'
              go_simp
              with_reducible rfl
             rotate_left
             ·simp only [Act.put, List.setIfInBounds_toArray, List.set_cons_zero, List.set_cons_succ, i64_w, i32_w]
              rfl
             refine pure_ (i := 9) (N := some 42) (v := ?_) (a' := ?_) #[true, true, true, true, true, true, true, true, true, true, true, true, false, false, false] rfl rfl (any_of HT_.out (by kernel_rfl)) (fun _ _ _ h => h) (Or.inl ⟨by rfl, ?_⟩) ?_ ?_
             rotate_left
             ·intro w'
              go_simp
              with_reducible rfl
             rotate_left
             ·simp only [Act.put, List.setIfInBounds_toArray, List.set_cons_zero, List.set_cons_succ, i64_w, i32_w]
              rfl
             refine pure_ (i := 12) (N := some 45) (v := ?_) (a' := ?_) #[true, true, true, true, true, true, true, true, true, true, true, true, true, false, false] rfl rfl (any_of HT_.out (by kernel_rfl)) (fun _ _ _ h => h) (Or.inl ⟨by rfl, ?_⟩) ?_ ?_
             rotate_left
             ·intro w'
              go_simp
              with_reducible rfl
             rotate_left
             ·simp only [Act.put, List.setIfInBounds_toArray, List.set_cons_zero, List.set_cons_succ, i64_w, i32_w]
              rfl
             refine one_ (i := 13) (N := some 46) #[true, true, true, true, true, true, true, true, true, true, true, true, true, true, false] rfl rfl (one_of HT_.out (by kernel_rfl)) (by decide) (fun K hK => ?_)
             refine goes_ Try.func91 (by kernel_rfl) rfl #[.string (((t220 ++ ((((((t214 ++ t215) ++ t216) ++ t217) ++ (⟨#[80]⟩ : ByteArray)) ++ t218) ++ t219)) ++ (⟨#[0, 0, 0, 0]⟩ : ByteArray)) ++ a2_6)] (by rfl) rfl rfl (by (try simp only [List.map_toArray, List.map_cons, List.map_nil]); first | done | rfl | (simp only [List.length_drop, List.length_take]; rfl)) ?_
             with_reducible refine (spec_l01Sum16.calls k (((t220 ++ ((((((t214 ++ t215) ++ t216) ++ t217) ++ (⟨#[80]⟩ : ByteArray)) ++ t218) ++ t219)) ++ (⟨#[0, 0, 0, 0]⟩ : ByteArray)) ++ a2_6) t221 _ A20.out).mono ?_
             rintro e w' ⟨rfl, ⟨nd, rfl⟩⟩
             refine ⟨_, rfl, ?_⟩
             refine hK.out _ _ ⟨(blk_cell BK213.out 0).trans rfl, (blk_cell BK213.out 1).trans rfl, (blk_cell BK213.out 2).trans rfl, (blk_cell BK213.out 3).trans rfl, (blk_cell BK213.out 4).trans rfl, (blk_cell BK213.out 5).trans rfl, (blk_cell BK213.out 6).trans rfl⟩ (fun hHeld => ?_)
             clear hK K
             refine norm_ (a' := ?_) ?_ ?_
             rotate_left
             ·show Act.put _ (some 46) _ = _
              simp only [Act.put, List.setIfInBounds_toArray, List.set_cons_zero, List.set_cons_succ, i64_w, i32_w]
              rfl
             refine pure_ (i := 14) (N := some 8) (v := ?_) (a' := ?_) #[true, true, true, true, true, true, true, true, true, true, true, true, true, true, true] rfl rfl (any_of HT_.out (by kernel_rfl)) (fun _ _ _ h => h) (Or.inl ⟨by rfl, ?_⟩) ?_ ?_
             rotate_left
             ·intro w'
              go_simp
              with_reducible rfl
             rotate_left
             ·simp only [Act.put, List.setIfInBounds_toArray, List.set_cons_zero, List.set_cons_succ, i64_w, i32_w]
              rfl
             refine done_ (done_of HT_.out (by kernel_rfl)) ?_
             try go_wp2
             (try (rw [drewN_self w34]; generalize hq_ : World.drewN w34 _ = w34; have n0_ : Aside0 (w34.heap[gb213]? = some (.cells #[.int .i64 a2_0, .int .i64 a2_1, .int .i64 a2_2, .int .i64 a2_3, .int .i64 a2_4, .int .i64 a2_5, .string a2_6] 67 (0, 0))) := ⟨by rw [← hq_]; exact (by (with_reducible repeat (first | refine blk_drewN ?_ _ | refine blk_drew ?_ | refine blk_alloc ?_ _)); exact BK213.out)⟩; have n1_ : Aside0 (Below w.heap.size w w34) := ⟨by rw [← hq_]; exact (by repeat (first | (with_reducible first | exact HB.out | apply below_alloc | apply pw_below_drewN | apply below_drew1 | refine below_set ?_ GE213.out) | exact HB.out))⟩; clear BK213 HB hq_; have BK213 := n0_; have HB := n1_; clear n0_ n1_))
             have n0_ := Aside0.mk (blk_drew BK213.out)
             have n1_ := Aside0.mk (below_drew1 HB.out)
             clear BK213
             clear HB
             have BK213 := n0_
             have HB := n1_
             clear n0_ n1_
             refine start_ (n := 9) (S := fun w' => w'.cell? ⟨gb213, 0, none⟩ = some (.int .i64 a2_0) ∧ w'.cell? ⟨gb213, 1, none⟩ = some (.int .i64 a2_1) ∧ w'.cell? ⟨gb213, 2, none⟩ = some (.int .i64 a2_2) ∧ w'.cell? ⟨gb213, 3, none⟩ = some (.int .i64 a2_3) ∧ w'.cell? ⟨gb213, 4, none⟩ = some (.int .i64 a2_4) ∧ w'.cell? ⟨gb213, 5, none⟩ = some (.int .i64 a2_5) ∧ w'.cell? ⟨gb213, 6, none⟩ = some (.string a2_6)) (ds := []) #[false, false, false, false, false, false, false, false, false] (by kernel_rfl) rfl rfl ⟨(blk_cell BK213.out 0).trans rfl, (blk_cell BK213.out 1).trans rfl, (blk_cell BK213.out 2).trans rfl, (blk_cell BK213.out 3).trans rfl, (blk_cell BK213.out 4).trans rfl, (blk_cell BK213.out 5).trans rfl, (blk_cell BK213.out 6).trans rfl⟩ (fun hHeld => ?_); refine with_tabW spec_l02SegmentBytes.tab3 spec_l02SegmentBytes.bits3 (fun HT_ HW_ => ?_)
             generalize w34.drew = w35 at BK213 HB hHeld ⊢
             refine pure_ (i := 0) (N := some 47) (v := ?_) (a' := ?_) #[true, false, false, false, false, false, false, false, false] rfl rfl (any_of HT_.out (by kernel_rfl)) (fun _ _ _ h => h) (Or.inl ⟨by rfl, ?_⟩) ?_ ?_
             rotate_left
             ·intro w'
              go_simp
              with_reducible rfl
             rotate_left
             ·simp only [Act.put, List.setIfInBounds_toArray, List.set_cons_zero, List.set_cons_succ, i64_w, i32_w]
              rfl
             refine pure_ (i := 1) (N := some 48) (v := ?_) (a' := ?_) #[true, true, false, false, false, false, false, false, false] rfl rfl (any_of HT_.out (by kernel_rfl)) (fun _ _ _ h => h) (Or.inl ⟨by rfl, ?_⟩) ?_ ?_
             rotate_left
             ·intro w'
              go_simp
              with_reducible rfl
             rotate_left
             ·simp only [Act.put, List.setIfInBounds_toArray, List.set_cons_zero, List.set_cons_succ, i64_w, i32_w]
              rfl
             refine pure_ (i := 5) (N := some 52) (v := ?_) (a' := ?_) #[true, true, false, false, false, true, false, false, false] rfl rfl (any_of HT_.out (by kernel_rfl)) (fun _ _ _ h => h) (Or.inl ⟨by rfl, ?_⟩) ?_ ?_
             rotate_left
             ·intro w'
              go_simp
              with_reducible rfl
             rotate_left
             ·simp only [Act.put, List.setIfInBounds_toArray, List.set_cons_zero, List.set_cons_succ, i64_w, i32_w]
              rfl
             refine take_ (i := 6) (N := some 53) (v := ?_) (a' := ?_) #[true, true, false, false, false, true, true, false, false] rfl rfl (take_ofW HT_.out HW_.out (by kernel_rfl)) (fun _ _ _ h => h) (Or.inl ⟨by rfl, ?_⟩) hHeld ?_ ?_
             rotate_left
             ·rintro w' ⟨s0, s1, s2, s3, s4, s5, s6⟩
              go_simp
              with_reducible rfl
             rotate_left
             ·simp only [Act.put, List.setIfInBounds_toArray, List.set_cons_zero, List.set_cons_succ, i64_w, i32_w]
              rfl
             refine one_ (i := 2) (N := some 49) #[true, true, true, false, false, true, true, false, false] rfl rfl (one_of HT_.out (by kernel_rfl)) (by decide) (fun K hK => ?_)
             refine goes_ Try.func60 (by kernel_rfl) rfl #[.int .i64 t221, .int .i64 2] (by rfl) rfl rfl (by (try simp only [List.map_toArray, List.map_cons, List.map_nil]); first | done | rfl | (simp only [List.length_drop, List.length_take]; rfl)) ?_
             with_reducible refine (spec_l01Number.calls k t221 2 t222 _ A21.out).mono ?_
             rintro e w36 ⟨rfl, hb⟩
             refine ⟨_, rfl, ?_⟩
             have n0_ := Aside0.mk (blk_below (g := gb213) (o := .cells #[.int .i64 a2_0, .int .i64 a2_1, .int .i64 a2_2, .int .i64 a2_3, .int .i64 a2_4, .int .i64 a2_5, .string a2_6] 67 (0, 0)) BK213.out hb)
             have n1_ := Aside0.mk (below_step HB.out hb)
             clear BK213
             clear HB
             have BK213 := n0_
             have HB := n1_
             clear n0_ n1_
             (try clear hb)
             (try clear hb2)
             (try clear hk)
             (try clear hi)
             refine hK.out _ _ ⟨(blk_cell BK213.out 0).trans rfl, (blk_cell BK213.out 1).trans rfl, (blk_cell BK213.out 2).trans rfl, (blk_cell BK213.out 3).trans rfl, (blk_cell BK213.out 4).trans rfl, (blk_cell BK213.out 5).trans rfl, (blk_cell BK213.out 6).trans rfl⟩ (fun hHeld => ?_)
             clear hK K
             refine norm_ (a' := ?_) ?_ ?_
             rotate_left
             ·show Act.put _ (some 49) _ = _
              simp only [Act.put, List.setIfInBounds_toArray, List.set_cons_zero, List.set_cons_succ, i64_w, i32_w]
              rfl
             refine pure_ (i := 3) (N := some 50) (v := ?_) (a' := ?_) #[true, true, true, true, false, true, true, false, false] rfl rfl (any_of HT_.out (by kernel_rfl)) (fun _ _ _ h => h) (Or.inl ⟨by rfl, ?_⟩) ?_ ?_
             rotate_left
             ·intro w'
              go_simp
              with_reducible rfl
             rotate_left
             ·simp only [Act.put, List.setIfInBounds_toArray, List.set_cons_zero, List.set_cons_succ, i64_w, i32_w]
              rfl
             refine pure_ (i := 4) (N := some 51) (v := ?_) (a' := ?_) #[true, true, true, true, true, true, true, false, false] rfl rfl (any_of HT_.out (by kernel_rfl)) (fun _ _ _ h => h) (Or.inl ⟨by rfl, ?_⟩) ?_ ?_
             rotate_left
             ·intro w'
              go_simp
              with_reducible rfl
             rotate_left
             ·simp only [Act.put, List.setIfInBounds_toArray, List.set_cons_zero, List.set_cons_succ, i64_w, i32_w]
              rfl
             refine pure_ (i := 7) (N := some 54) (v := ?_) (a' := ?_) #[true, true, true, true, true, true, true, true, false] rfl rfl (any_of HT_.out (by kernel_rfl)) (fun _ _ _ h => h) (Or.inl ⟨by rfl, ?_⟩) ?_ ?_
             rotate_left
             ·intro w'
              go_simp
              with_reducible rfl
             rotate_left
             ·simp only [Act.put, List.setIfInBounds_toArray, List.set_cons_zero, List.set_cons_succ, i64_w, i32_w]
              rfl
             refine pure_ (i := 8) (N := some 6) (v := ?_) (a' := ?_) #[true, true, true, true, true, true, true, true, true] rfl rfl (any_of HT_.out (by kernel_rfl)) (fun _ _ _ h => h) (Or.inl ⟨by rfl, ?_⟩) ?_ ?_
             rotate_left
             ·intro w'
              go_simp
              with_reducible rfl
             rotate_left
             ·simp only [Act.put, List.setIfInBounds_toArray, List.set_cons_zero, List.set_cons_succ, i64_w, i32_w]
              rfl
             refine done_ (done_of HT_.out (by kernel_rfl)) ?_
             try go_wp2
             go_ret
             exact ⟨by first | rfl | (simp [errW_none, errW_some] <;> rfl) | (simp [*, errW_none, errW_some] <;> rfl), by repeat (first | (with_reducible first | exact HB.out | apply below_alloc | apply pw_below_drewN | apply below_drew1 | refine below_set ?_ GE213.out) | exact HB.out)⟩
            ·rw [if_neg c24] at H
             exact absurd H (by simp)
           ·rw [if_neg c23] at H
            exact absurd H (by simp)
          ·rw [if_neg c22] at H
           exact absurd H (by simp)
         ·rw [if_neg c19] at H
          exact absurd H (by simp)
        ·rw [if_neg c18] at H
         exact absurd H (by simp)
       ·rw [if_neg c17] at H
        exact absurd H (by simp)
      ·rw [if_neg c15] at H
       exact absurd H (by simp)
     ·rw [if_neg c13] at H
      exact absurd H (by simp)
    ·rw [if_neg c11] at H
     exact absurd H (by simp)
   ·rw [if_neg c10] at H
    exact absurd H (by simp)
  ·rw [if_neg c8] at H
   exact absurd H (by simp)
 ·rw [if_neg c6] at H
  exact absurd H (by simp)

end Go.Proofs.Ythfhflgiblmooaa.PFs
