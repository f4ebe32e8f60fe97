-- Printed by this session's own program (wip/tools/myprint.py over the kit's print, out of the translation). Nothing here is trusted: Lean checks it.
import Derived.Test.YthfhflgiblmooaaPDhx0
import Derived.Test.YthfhflgiblmooaaPDhx1
namespace Go.Proofs.Ythfhflgiblmooaa.PDh
open Go.RowKit Go.Proofs.YthfhflgiblmooaaW.PrintWords Go.Proofs.YthfhflgiblmooaaW.PrintLast Go.Proofs.YthfhflgiblmooaaW.PrintMore
attribute [local go_sem] w64_u8 w64_u8_4 max2_int min2_int max_two min_two max_three min_three max_four min_four   -- for this text's walks alone
set_option linter.unusedVariables false
set_option linter.unusedSimpArgs false

/-! ### spec_l03DhcpBytes: function 72 -/
def spec_l03DhcpBytes.f (k : Nat) (a0_0 : Int) (a0_1 : Int) (a0_2 : Int) (a0_3 : Bool) (a0_4 : ByteArray) : Option (ByteArray) := (spec_l01Bit.f a0_3).bind fun t119 => ((spec_l01Number.f k (wrap64 (1 + t119)) 1).bind fun t120 => (if t120.size + 3 ≤ 9223372036854775807 then ((spec_l01Number.f k a0_0 4).bind fun t121 => (if (t120 ++ (⟨#[1, 6, 0]⟩ : ByteArray)).size + t121.size ≤ 9223372036854775807 then (if ((t120 ++ (⟨#[1, 6, 0]⟩ : ByteArray)) ++ t121).size + 4 ≤ 9223372036854775807 then (if (((t120 ++ (⟨#[1, 6, 0]⟩ : ByteArray)) ++ t121) ++ (⟨#[0, 0, 0, 0]⟩ : ByteArray)).size + 4 ≤ 9223372036854775807 then ((spec_l01Number.f k a0_1 4).bind fun t122 => (if ((((t120 ++ (⟨#[1, 6, 0]⟩ : ByteArray)) ++ t121) ++ (⟨#[0, 0, 0, 0]⟩ : ByteArray)) ++ (⟨#[0, 0, 0, 0]⟩ : ByteArray)).size + t122.size ≤ 9223372036854775807 then (if (((((t120 ++ (⟨#[1, 6, 0]⟩ : ByteArray)) ++ t121) ++ (⟨#[0, 0, 0, 0]⟩ : ByteArray)) ++ (⟨#[0, 0, 0, 0]⟩ : ByteArray)) ++ t122).size + 4 ≤ 9223372036854775807 then (if ((((((t120 ++ (⟨#[1, 6, 0]⟩ : ByteArray)) ++ t121) ++ (⟨#[0, 0, 0, 0]⟩ : ByteArray)) ++ (⟨#[0, 0, 0, 0]⟩ : ByteArray)) ++ t122) ++ (⟨#[0, 0, 0, 0]⟩ : ByteArray)).size + 4 ≤ 9223372036854775807 then (if (((((((t120 ++ (⟨#[1, 6, 0]⟩ : ByteArray)) ++ t121) ++ (⟨#[0, 0, 0, 0]⟩ : ByteArray)) ++ (⟨#[0, 0, 0, 0]⟩ : ByteArray)) ++ t122) ++ (⟨#[0, 0, 0, 0]⟩ : ByteArray)) ++ (⟨#[0, 0, 0, 0]⟩ : ByteArray)).size + a0_4.size ≤ 9223372036854775807 then (if 202 ≤ 281474976710656 then ((some (List.replicate 202 0 : List Int)).bind fun y123 => (if ((((((((t120 ++ (⟨#[1, 6, 0]⟩ : ByteArray)) ++ t121) ++ (⟨#[0, 0, 0, 0]⟩ : ByteArray)) ++ (⟨#[0, 0, 0, 0]⟩ : ByteArray)) ++ t122) ++ (⟨#[0, 0, 0, 0]⟩ : ByteArray)) ++ (⟨#[0, 0, 0, 0]⟩ : ByteArray)) ++ a0_4).size + (strOfNums y123).size ≤ 9223372036854775807 then (if (((((((((t120 ++ (⟨#[1, 6, 0]⟩ : ByteArray)) ++ t121) ++ (⟨#[0, 0, 0, 0]⟩ : ByteArray)) ++ (⟨#[0, 0, 0, 0]⟩ : ByteArray)) ++ t122) ++ (⟨#[0, 0, 0, 0]⟩ : ByteArray)) ++ (⟨#[0, 0, 0, 0]⟩ : ByteArray)) ++ a0_4) ++ (strOfNums y123)).size + 4 ≤ 9223372036854775807 then (if ((((((((((t120 ++ (⟨#[1, 6, 0]⟩ : ByteArray)) ++ t121) ++ (⟨#[0, 0, 0, 0]⟩ : ByteArray)) ++ (⟨#[0, 0, 0, 0]⟩ : ByteArray)) ++ t122) ++ (⟨#[0, 0, 0, 0]⟩ : ByteArray)) ++ (⟨#[0, 0, 0, 0]⟩ : ByteArray)) ++ a0_4) ++ (strOfNums y123)) ++ (⟨#[99, 130, 83, 99]⟩ : ByteArray)).size + 2 ≤ 9223372036854775807 then ((spec_l01Number.f k a0_2 1).bind fun t126 => (if (((((((((((t120 ++ (⟨#[1, 6, 0]⟩ : ByteArray)) ++ t121) ++ (⟨#[0, 0, 0, 0]⟩ : ByteArray)) ++ (⟨#[0, 0, 0, 0]⟩ : ByteArray)) ++ t122) ++ (⟨#[0, 0, 0, 0]⟩ : ByteArray)) ++ (⟨#[0, 0, 0, 0]⟩ : ByteArray)) ++ a0_4) ++ (strOfNums y123)) ++ (⟨#[99, 130, 83, 99]⟩ : ByteArray)) ++ (⟨#[53, 1]⟩ : ByteArray)).size + t126.size ≤ 9223372036854775807 then (if ((((((((((((t120 ++ (⟨#[1, 6, 0]⟩ : ByteArray)) ++ t121) ++ (⟨#[0, 0, 0, 0]⟩ : ByteArray)) ++ (⟨#[0, 0, 0, 0]⟩ : ByteArray)) ++ t122) ++ (⟨#[0, 0, 0, 0]⟩ : ByteArray)) ++ (⟨#[0, 0, 0, 0]⟩ : ByteArray)) ++ a0_4) ++ (strOfNums y123)) ++ (⟨#[99, 130, 83, 99]⟩ : ByteArray)) ++ (⟨#[53, 1]⟩ : ByteArray)) ++ t126).size + 1 ≤ 9223372036854775807 then (some (((((((((((((t120 ++ (⟨#[1, 6, 0]⟩ : ByteArray)) ++ t121) ++ (⟨#[0, 0, 0, 0]⟩ : ByteArray)) ++ (⟨#[0, 0, 0, 0]⟩ : ByteArray)) ++ t122) ++ (⟨#[0, 0, 0, 0]⟩ : ByteArray)) ++ (⟨#[0, 0, 0, 0]⟩ : ByteArray)) ++ a0_4) ++ (strOfNums y123)) ++ (⟨#[99, 130, 83, 99]⟩ : ByteArray)) ++ (⟨#[53, 1]⟩ : ByteArray)) ++ t126) ++ (⟨#[255]⟩ : ByteArray))) else (none)) else (none))) else (none)) else (none)) else (none))) else (none)) else (none)) else (none)) else (none)) else (none))) else (none)) else (none)) else (none))) else (none)))
theorem spec_l03DhcpBytes.mono : ∀ a0 a1 a2 a3 a4 k, LeO (spec_l03DhcpBytes.f k a0 a1 a2 a3 a4) (spec_l03DhcpBytes.f (k + 1) a0 a1 a2 a3 a4) := by
  intro a0 a1 a2 a3 a4 k
  unfold spec_l03DhcpBytes.f
  repeat' first
      | (with_reducible exact spec_l01Number.mono _ _ _)
      | (with_reducible exact LeO.refl _)
      | (with_reducible exact LeO.none _)
      | (with_reducible refine LeO.ite ?_ ?_)
      | (with_reducible refine LeO.bind ?_ (fun _ => ?_))
      | exact spec_l01Number.mono _ _ _
      | exact LeO.none _
      | refine LeO.ite ?_ ?_
      | refine LeO.bind ?_ (fun _ => ?_)
def spec_l03DhcpBytes.T2 : Bool × List (List Nat × List Nat) := (true, [([], []), ([0], [0]), ([1], [1]), ([], []), ([3], [3]), ([4, 1], [4]), ([2, 5], [2, 5]), ([6], [6]), ([7], [7]), ([], []), ([9], [9]), ([10, 5], [10]), ([8, 11], [8, 11]), ([12], [12]), ([13], [13]), ([14, 11, 0, 1, 2, 3, 4, 5, 6, 7, 8, 9, 10, 11, 12, 13, 14], [14])])
def spec_l03DhcpBytes.B2 : List Nat := [0, 1, 3, 0, 8, 27, 63, 127, 255, 0, 512, 1595, 4095, 8191, 16383, 32767]
theorem spec_l03DhcpBytes.tab2 : rtab .any (opsOf Try.f72 2) = spec_l03DhcpBytes.T2 := by kernel_rfl
theorem spec_l03DhcpBytes.bits2 : waitsOk spec_l03DhcpBytes.T2.2 spec_l03DhcpBytes.B2 = true := by kernel_rfl
def spec_l03DhcpBytes.T3 : Bool × List (List Nat × List Nat) := (true, [([], []), ([], []), ([1], [1]), ([0, 2], [0, 2]), ([], []), ([4], [4]), ([3, 5], [3, 5]), ([6], [6]), ([7], [7]), ([], []), ([9], [9]), ([10], [10]), ([8, 11], [8, 11]), ([12], [12]), ([13, 11, 0, 1, 2, 3, 4, 5, 6, 7, 8, 9, 10, 11, 12, 13], [13])])
def spec_l03DhcpBytes.B3 : List Nat := [0, 0, 2, 7, 0, 16, 63, 127, 255, 0, 512, 1536, 4095, 8191, 16383]
theorem spec_l03DhcpBytes.tab3 : rtab .any (opsOf Try.f72 3) = spec_l03DhcpBytes.T3 := by kernel_rfl
theorem spec_l03DhcpBytes.bits3 : waitsOk spec_l03DhcpBytes.T3.2 spec_l03DhcpBytes.B3 = true := by kernel_rfl
set_option maxHeartbeats 8000000 in
set_option maxRecDepth 100000 in
theorem spec_l03DhcpBytes.calls (k : Nat) (a0_0 : Int) (a0_1 : Int) (a0_2 : Int) (a0_3 : Bool) (a0_4 : ByteArray) (r : ByteArray) (w : World) (h : spec_l03DhcpBytes.f k a0_0 a0_1 a0_2 a0_3 a0_4 = some r) :
    Calls Try.prog 72 #[.agg #[.int .i64 a0_0, .int .i64 a0_1, .int .i64 a0_2, .bool a0_3, .string a0_4]] w fun e w' => e = .returned (.string r) ∧ Below w.heap.size w w' := by
  have hu46 := Try.underlying46
  have HB := Aside0.mk (Below.refl w.heap.size w)
  have H : ((spec_l01Bit.f a0_3).bind fun t119 => ((spec_l01Number.f k (wrap64 (1 + t119)) 1).bind fun t120 => (if t120.size + 3 ≤ 9223372036854775807 then ((spec_l01Number.f k a0_0 4).bind fun t121 => (if (t120 ++ (⟨#[1, 6, 0]⟩ : ByteArray)).size + t121.size ≤ 9223372036854775807 then (if ((t120 ++ (⟨#[1, 6, 0]⟩ : ByteArray)) ++ t121).size + 4 ≤ 9223372036854775807 then (if (((t120 ++ (⟨#[1, 6, 0]⟩ : ByteArray)) ++ t121) ++ (⟨#[0, 0, 0, 0]⟩ : ByteArray)).size + 4 ≤ 9223372036854775807 then ((spec_l01Number.f k a0_1 4).bind fun t122 => (if ((((t120 ++ (⟨#[1, 6, 0]⟩ : ByteArray)) ++ t121) ++ (⟨#[0, 0, 0, 0]⟩ : ByteArray)) ++ (⟨#[0, 0, 0, 0]⟩ : ByteArray)).size + t122.size ≤ 9223372036854775807 then (if (((((t120 ++ (⟨#[1, 6, 0]⟩ : ByteArray)) ++ t121) ++ (⟨#[0, 0, 0, 0]⟩ : ByteArray)) ++ (⟨#[0, 0, 0, 0]⟩ : ByteArray)) ++ t122).size + 4 ≤ 9223372036854775807 then (if ((((((t120 ++ (⟨#[1, 6, 0]⟩ : ByteArray)) ++ t121) ++ (⟨#[0, 0, 0, 0]⟩ : ByteArray)) ++ (⟨#[0, 0, 0, 0]⟩ : ByteArray)) ++ t122) ++ (⟨#[0, 0, 0, 0]⟩ : ByteArray)).size + 4 ≤ 9223372036854775807 then (if (((((((t120 ++ (⟨#[1, 6, 0]⟩ : ByteArray)) ++ t121) ++ (⟨#[0, 0, 0, 0]⟩ : ByteArray)) ++ (⟨#[0, 0, 0, 0]⟩ : ByteArray)) ++ t122) ++ (⟨#[0, 0, 0, 0]⟩ : ByteArray)) ++ (⟨#[0, 0, 0, 0]⟩ : ByteArray)).size + a0_4.size ≤ 9223372036854775807 then (if 202 ≤ 281474976710656 then ((some (List.replicate 202 0 : List Int)).bind fun y123 => (if ((((((((t120 ++ (⟨#[1, 6, 0]⟩ : ByteArray)) ++ t121) ++ (⟨#[0, 0, 0, 0]⟩ : ByteArray)) ++ (⟨#[0, 0, 0, 0]⟩ : ByteArray)) ++ t122) ++ (⟨#[0, 0, 0, 0]⟩ : ByteArray)) ++ (⟨#[0, 0, 0, 0]⟩ : ByteArray)) ++ a0_4).size + (strOfNums y123).size ≤ 9223372036854775807 then (if (((((((((t120 ++ (⟨#[1, 6, 0]⟩ : ByteArray)) ++ t121) ++ (⟨#[0, 0, 0, 0]⟩ : ByteArray)) ++ (⟨#[0, 0, 0, 0]⟩ : ByteArray)) ++ t122) ++ (⟨#[0, 0, 0, 0]⟩ : ByteArray)) ++ (⟨#[0, 0, 0, 0]⟩ : ByteArray)) ++ a0_4) ++ (strOfNums y123)).size + 4 ≤ 9223372036854775807 then (if ((((((((((t120 ++ (⟨#[1, 6, 0]⟩ : ByteArray)) ++ t121) ++ (⟨#[0, 0, 0, 0]⟩ : ByteArray)) ++ (⟨#[0, 0, 0, 0]⟩ : ByteArray)) ++ t122) ++ (⟨#[0, 0, 0, 0]⟩ : ByteArray)) ++ (⟨#[0, 0, 0, 0]⟩ : ByteArray)) ++ a0_4) ++ (strOfNums y123)) ++ (⟨#[99, 130, 83, 99]⟩ : ByteArray)).size + 2 ≤ 9223372036854775807 then ((spec_l01Number.f k a0_2 1).bind fun t126 => (if (((((((((((t120 ++ (⟨#[1, 6, 0]⟩ : ByteArray)) ++ t121) ++ (⟨#[0, 0, 0, 0]⟩ : ByteArray)) ++ (⟨#[0, 0, 0, 0]⟩ : ByteArray)) ++ t122) ++ (⟨#[0, 0, 0, 0]⟩ : ByteArray)) ++ (⟨#[0, 0, 0, 0]⟩ : ByteArray)) ++ a0_4) ++ (strOfNums y123)) ++ (⟨#[99, 130, 83, 99]⟩ : ByteArray)) ++ (⟨#[53, 1]⟩ : ByteArray)).size + t126.size ≤ 9223372036854775807 then (if ((((((((((((t120 ++ (⟨#[1, 6, 0]⟩ : ByteArray)) ++ t121) ++ (⟨#[0, 0, 0, 0]⟩ : ByteArray)) ++ (⟨#[0, 0, 0, 0]⟩ : ByteArray)) ++ t122) ++ (⟨#[0, 0, 0, 0]⟩ : ByteArray)) ++ (⟨#[0, 0, 0, 0]⟩ : ByteArray)) ++ a0_4) ++ (strOfNums y123)) ++ (⟨#[99, 130, 83, 99]⟩ : ByteArray)) ++ (⟨#[53, 1]⟩ : ByteArray)) ++ t126).size + 1 ≤ 9223372036854775807 then (some (((((((((((((t120 ++ (⟨#[1, 6, 0]⟩ : ByteArray)) ++ t121) ++ (⟨#[0, 0, 0, 0]⟩ : ByteArray)) ++ (⟨#[0, 0, 0, 0]⟩ : ByteArray)) ++ t122) ++ (⟨#[0, 0, 0, 0]⟩ : ByteArray)) ++ (⟨#[0, 0, 0, 0]⟩ : ByteArray)) ++ a0_4) ++ (strOfNums y123)) ++ (⟨#[99, 130, 83, 99]⟩ : ByteArray)) ++ (⟨#[53, 1]⟩ : ByteArray)) ++ t126) ++ (⟨#[255]⟩ : ByteArray))) else (none)) else (none))) else (none)) else (none)) else (none))) else (none)) else (none)) else (none)) else (none)) else (none))) else (none)) else (none)) else (none))) else (none)))) = some r := h
  clear h
  replace H := Option.bind_eq_some_iff.mp H
  obtain ⟨t119, A20, H⟩ := H
  replace H : ((spec_l01Number.f k (wrap64 (1 + t119)) 1).bind fun t120 => (if t120.size + 3 ≤ 9223372036854775807 then ((spec_l01Number.f k a0_0 4).bind fun t121 => (if (t120 ++ (⟨#[1, 6, 0]⟩ : ByteArray)).size + t121.size ≤ 9223372036854775807 then (if ((t120 ++ (⟨#[1, 6, 0]⟩ : ByteArray)) ++ t121).size + 4 ≤ 9223372036854775807 then (if (((t120 ++ (⟨#[1, 6, 0]⟩ : ByteArray)) ++ t121) ++ (⟨#[0, 0, 0, 0]⟩ : ByteArray)).size + 4 ≤ 9223372036854775807 then ((spec_l01Number.f k a0_1 4).bind fun t122 => (if ((((t120 ++ (⟨#[1, 6, 0]⟩ : ByteArray)) ++ t121) ++ (⟨#[0, 0, 0, 0]⟩ : ByteArray)) ++ (⟨#[0, 0, 0, 0]⟩ : ByteArray)).size + t122.size ≤ 9223372036854775807 then (if (((((t120 ++ (⟨#[1, 6, 0]⟩ : ByteArray)) ++ t121) ++ (⟨#[0, 0, 0, 0]⟩ : ByteArray)) ++ (⟨#[0, 0, 0, 0]⟩ : ByteArray)) ++ t122).size + 4 ≤ 9223372036854775807 then (if ((((((t120 ++ (⟨#[1, 6, 0]⟩ : ByteArray)) ++ t121) ++ (⟨#[0, 0, 0, 0]⟩ : ByteArray)) ++ (⟨#[0, 0, 0, 0]⟩ : ByteArray)) ++ t122) ++ (⟨#[0, 0, 0, 0]⟩ : ByteArray)).size + 4 ≤ 9223372036854775807 then (if (((((((t120 ++ (⟨#[1, 6, 0]⟩ : ByteArray)) ++ t121) ++ (⟨#[0, 0, 0, 0]⟩ : ByteArray)) ++ (⟨#[0, 0, 0, 0]⟩ : ByteArray)) ++ t122) ++ (⟨#[0, 0, 0, 0]⟩ : ByteArray)) ++ (⟨#[0, 0, 0, 0]⟩ : ByteArray)).size + a0_4.size ≤ 9223372036854775807 then (if 202 ≤ 281474976710656 then ((some (List.replicate 202 0 : List Int)).bind fun y123 => (if ((((((((t120 ++ (⟨#[1, 6, 0]⟩ : ByteArray)) ++ t121) ++ (⟨#[0, 0, 0, 0]⟩ : ByteArray)) ++ (⟨#[0, 0, 0, 0]⟩ : ByteArray)) ++ t122) ++ (⟨#[0, 0, 0, 0]⟩ : ByteArray)) ++ (⟨#[0, 0, 0, 0]⟩ : ByteArray)) ++ a0_4).size + (strOfNums y123).size ≤ 9223372036854775807 then (if (((((((((t120 ++ (⟨#[1, 6, 0]⟩ : ByteArray)) ++ t121) ++ (⟨#[0, 0, 0, 0]⟩ : ByteArray)) ++ (⟨#[0, 0, 0, 0]⟩ : ByteArray)) ++ t122) ++ (⟨#[0, 0, 0, 0]⟩ : ByteArray)) ++ (⟨#[0, 0, 0, 0]⟩ : ByteArray)) ++ a0_4) ++ (strOfNums y123)).size + 4 ≤ 9223372036854775807 then (if ((((((((((t120 ++ (⟨#[1, 6, 0]⟩ : ByteArray)) ++ t121) ++ (⟨#[0, 0, 0, 0]⟩ : ByteArray)) ++ (⟨#[0, 0, 0, 0]⟩ : ByteArray)) ++ t122) ++ (⟨#[0, 0, 0, 0]⟩ : ByteArray)) ++ (⟨#[0, 0, 0, 0]⟩ : ByteArray)) ++ a0_4) ++ (strOfNums y123)) ++ (⟨#[99, 130, 83, 99]⟩ : ByteArray)).size + 2 ≤ 9223372036854775807 then ((spec_l01Number.f k a0_2 1).bind fun t126 => (if (((((((((((t120 ++ (⟨#[1, 6, 0]⟩ : ByteArray)) ++ t121) ++ (⟨#[0, 0, 0, 0]⟩ : ByteArray)) ++ (⟨#[0, 0, 0, 0]⟩ : ByteArray)) ++ t122) ++ (⟨#[0, 0, 0, 0]⟩ : ByteArray)) ++ (⟨#[0, 0, 0, 0]⟩ : ByteArray)) ++ a0_4) ++ (strOfNums y123)) ++ (⟨#[99, 130, 83, 99]⟩ : ByteArray)) ++ (⟨#[53, 1]⟩ : ByteArray)).size + t126.size ≤ 9223372036854775807 then (if ((((((((((((t120 ++ (⟨#[1, 6, 0]⟩ : ByteArray)) ++ t121) ++ (⟨#[0, 0, 0, 0]⟩ : ByteArray)) ++ (⟨#[0, 0, 0, 0]⟩ : ByteArray)) ++ t122) ++ (⟨#[0, 0, 0, 0]⟩ : ByteArray)) ++ (⟨#[0, 0, 0, 0]⟩ : ByteArray)) ++ a0_4) ++ (strOfNums y123)) ++ (⟨#[99, 130, 83, 99]⟩ : ByteArray)) ++ (⟨#[53, 1]⟩ : ByteArray)) ++ t126).size + 1 ≤ 9223372036854775807 then (some (((((((((((((t120 ++ (⟨#[1, 6, 0]⟩ : ByteArray)) ++ t121) ++ (⟨#[0, 0, 0, 0]⟩ : ByteArray)) ++ (⟨#[0, 0, 0, 0]⟩ : ByteArray)) ++ t122) ++ (⟨#[0, 0, 0, 0]⟩ : ByteArray)) ++ (⟨#[0, 0, 0, 0]⟩ : ByteArray)) ++ a0_4) ++ (strOfNums y123)) ++ (⟨#[99, 130, 83, 99]⟩ : ByteArray)) ++ (⟨#[53, 1]⟩ : ByteArray)) ++ t126) ++ (⟨#[255]⟩ : ByteArray))) else (none)) else (none))) else (none)) else (none)) else (none))) else (none)) else (none)) else (none)) else (none)) else (none))) else (none)) else (none)) else (none))) else (none))) = some r := H
  have A2 := Aside0.mk A20
  clear A20
  replace H := Option.bind_eq_some_iff.mp H
  obtain ⟨t120, A30, H⟩ := H
  replace H : (if t120.size + 3 ≤ 9223372036854775807 then ((spec_l01Number.f k a0_0 4).bind fun t121 => (if (t120 ++ (⟨#[1, 6, 0]⟩ : ByteArray)).size + t121.size ≤ 9223372036854775807 then (if ((t120 ++ (⟨#[1, 6, 0]⟩ : ByteArray)) ++ t121).size + 4 ≤ 9223372036854775807 then (if (((t120 ++ (⟨#[1, 6, 0]⟩ : ByteArray)) ++ t121) ++ (⟨#[0, 0, 0, 0]⟩ : ByteArray)).size + 4 ≤ 9223372036854775807 then ((spec_l01Number.f k a0_1 4).bind fun t122 => (if ((((t120 ++ (⟨#[1, 6, 0]⟩ : ByteArray)) ++ t121) ++ (⟨#[0, 0, 0, 0]⟩ : ByteArray)) ++ (⟨#[0, 0, 0, 0]⟩ : ByteArray)).size + t122.size ≤ 9223372036854775807 then (if (((((t120 ++ (⟨#[1, 6, 0]⟩ : ByteArray)) ++ t121) ++ (⟨#[0, 0, 0, 0]⟩ : ByteArray)) ++ (⟨#[0, 0, 0, 0]⟩ : ByteArray)) ++ t122).size + 4 ≤ 9223372036854775807 then (if ((((((t120 ++ (⟨#[1, 6, 0]⟩ : ByteArray)) ++ t121) ++ (⟨#[0, 0, 0, 0]⟩ : ByteArray)) ++ (⟨#[0, 0, 0, 0]⟩ : ByteArray)) ++ t122) ++ (⟨#[0, 0, 0, 0]⟩ : ByteArray)).size + 4 ≤ 9223372036854775807 then (if (((((((t120 ++ (⟨#[1, 6, 0]⟩ : ByteArray)) ++ t121) ++ (⟨#[0, 0, 0, 0]⟩ : ByteArray)) ++ (⟨#[0, 0, 0, 0]⟩ : ByteArray)) ++ t122) ++ (⟨#[0, 0, 0, 0]⟩ : ByteArray)) ++ (⟨#[0, 0, 0, 0]⟩ : ByteArray)).size + a0_4.size ≤ 9223372036854775807 then (if 202 ≤ 281474976710656 then ((some (List.replicate 202 0 : List Int)).bind fun y123 => (if ((((((((t120 ++ (⟨#[1, 6, 0]⟩ : ByteArray)) ++ t121) ++ (⟨#[0, 0, 0, 0]⟩ : ByteArray)) ++ (⟨#[0, 0, 0, 0]⟩ : ByteArray)) ++ t122) ++ (⟨#[0, 0, 0, 0]⟩ : ByteArray)) ++ (⟨#[0, 0, 0, 0]⟩ : ByteArray)) ++ a0_4).size + (strOfNums y123).size ≤ 9223372036854775807 then (if (((((((((t120 ++ (⟨#[1, 6, 0]⟩ : ByteArray)) ++ t121) ++ (⟨#[0, 0, 0, 0]⟩ : ByteArray)) ++ (⟨#[0, 0, 0, 0]⟩ : ByteArray)) ++ t122) ++ (⟨#[0, 0, 0, 0]⟩ : ByteArray)) ++ (⟨#[0, 0, 0, 0]⟩ : ByteArray)) ++ a0_4) ++ (strOfNums y123)).size + 4 ≤ 9223372036854775807 then (if ((((((((((t120 ++ (⟨#[1, 6, 0]⟩ : ByteArray)) ++ t121) ++ (⟨#[0, 0, 0, 0]⟩ : ByteArray)) ++ (⟨#[0, 0, 0, 0]⟩ : ByteArray)) ++ t122) ++ (⟨#[0, 0, 0, 0]⟩ : ByteArray)) ++ (⟨#[0, 0, 0, 0]⟩ : ByteArray)) ++ a0_4) ++ (strOfNums y123)) ++ (⟨#[99, 130, 83, 99]⟩ : ByteArray)).size + 2 ≤ 9223372036854775807 then ((spec_l01Number.f k a0_2 1).bind fun t126 => (if (((((((((((t120 ++ (⟨#[1, 6, 0]⟩ : ByteArray)) ++ t121) ++ (⟨#[0, 0, 0, 0]⟩ : ByteArray)) ++ (⟨#[0, 0, 0, 0]⟩ : ByteArray)) ++ t122) ++ (⟨#[0, 0, 0, 0]⟩ : ByteArray)) ++ (⟨#[0, 0, 0, 0]⟩ : ByteArray)) ++ a0_4) ++ (strOfNums y123)) ++ (⟨#[99, 130, 83, 99]⟩ : ByteArray)) ++ (⟨#[53, 1]⟩ : ByteArray)).size + t126.size ≤ 9223372036854775807 then (if ((((((((((((t120 ++ (⟨#[1, 6, 0]⟩ : ByteArray)) ++ t121) ++ (⟨#[0, 0, 0, 0]⟩ : ByteArray)) ++ (⟨#[0, 0, 0, 0]⟩ : ByteArray)) ++ t122) ++ (⟨#[0, 0, 0, 0]⟩ : ByteArray)) ++ (⟨#[0, 0, 0, 0]⟩ : ByteArray)) ++ a0_4) ++ (strOfNums y123)) ++ (⟨#[99, 130, 83, 99]⟩ : ByteArray)) ++ (⟨#[53, 1]⟩ : ByteArray)) ++ t126).size + 1 ≤ 9223372036854775807 then (some (((((((((((((t120 ++ (⟨#[1, 6, 0]⟩ : ByteArray)) ++ t121) ++ (⟨#[0, 0, 0, 0]⟩ : ByteArray)) ++ (⟨#[0, 0, 0, 0]⟩ : ByteArray)) ++ t122) ++ (⟨#[0, 0, 0, 0]⟩ : ByteArray)) ++ (⟨#[0, 0, 0, 0]⟩ : ByteArray)) ++ a0_4) ++ (strOfNums y123)) ++ (⟨#[99, 130, 83, 99]⟩ : ByteArray)) ++ (⟨#[53, 1]⟩ : ByteArray)) ++ t126) ++ (⟨#[255]⟩ : ByteArray))) else (none)) else (none))) else (none)) else (none)) else (none))) else (none)) else (none)) else (none)) else (none)) else (none))) else (none)) else (none)) else (none))) else (none)) = some r := H
  have A3 := Aside0.mk A30
  clear A30
  by_cases c4 : t120.size + 3 ≤ 9223372036854775807
  · rw [if_pos c4] at H
    have c4b0 := eq_true c4
    have c4b1 : decide (t120.size + 3 ≤ 9223372036854775807) = true := decide_eq_true c4
    try have c4b2 : (9223372036854775807 < t120.size + 3) = False := eq_false (Nat.not_lt.2 c4)
    replace H := Option.bind_eq_some_iff.mp H
    obtain ⟨t121, A50, H⟩ := H
    replace H : (if (t120 ++ (⟨#[1, 6, 0]⟩ : ByteArray)).size + t121.size ≤ 9223372036854775807 then (if ((t120 ++ (⟨#[1, 6, 0]⟩ : ByteArray)) ++ t121).size + 4 ≤ 9223372036854775807 then (if (((t120 ++ (⟨#[1, 6, 0]⟩ : ByteArray)) ++ t121) ++ (⟨#[0, 0, 0, 0]⟩ : ByteArray)).size + 4 ≤ 9223372036854775807 then ((spec_l01Number.f k a0_1 4).bind fun t122 => (if ((((t120 ++ (⟨#[1, 6, 0]⟩ : ByteArray)) ++ t121) ++ (⟨#[0, 0, 0, 0]⟩ : ByteArray)) ++ (⟨#[0, 0, 0, 0]⟩ : ByteArray)).size + t122.size ≤ 9223372036854775807 then (if (((((t120 ++ (⟨#[1, 6, 0]⟩ : ByteArray)) ++ t121) ++ (⟨#[0, 0, 0, 0]⟩ : ByteArray)) ++ (⟨#[0, 0, 0, 0]⟩ : ByteArray)) ++ t122).size + 4 ≤ 9223372036854775807 then (if ((((((t120 ++ (⟨#[1, 6, 0]⟩ : ByteArray)) ++ t121) ++ (⟨#[0, 0, 0, 0]⟩ : ByteArray)) ++ (⟨#[0, 0, 0, 0]⟩ : ByteArray)) ++ t122) ++ (⟨#[0, 0, 0, 0]⟩ : ByteArray)).size + 4 ≤ 9223372036854775807 then (if (((((((t120 ++ (⟨#[1, 6, 0]⟩ : ByteArray)) ++ t121) ++ (⟨#[0, 0, 0, 0]⟩ : ByteArray)) ++ (⟨#[0, 0, 0, 0]⟩ : ByteArray)) ++ t122) ++ (⟨#[0, 0, 0, 0]⟩ : ByteArray)) ++ (⟨#[0, 0, 0, 0]⟩ : ByteArray)).size + a0_4.size ≤ 9223372036854775807 then (if 202 ≤ 281474976710656 then ((some (List.replicate 202 0 : List Int)).bind fun y123 => (if ((((((((t120 ++ (⟨#[1, 6, 0]⟩ : ByteArray)) ++ t121) ++ (⟨#[0, 0, 0, 0]⟩ : ByteArray)) ++ (⟨#[0, 0, 0, 0]⟩ : ByteArray)) ++ t122) ++ (⟨#[0, 0, 0, 0]⟩ : ByteArray)) ++ (⟨#[0, 0, 0, 0]⟩ : ByteArray)) ++ a0_4).size + (strOfNums y123).size ≤ 9223372036854775807 then (if (((((((((t120 ++ (⟨#[1, 6, 0]⟩ : ByteArray)) ++ t121) ++ (⟨#[0, 0, 0, 0]⟩ : ByteArray)) ++ (⟨#[0, 0, 0, 0]⟩ : ByteArray)) ++ t122) ++ (⟨#[0, 0, 0, 0]⟩ : ByteArray)) ++ (⟨#[0, 0, 0, 0]⟩ : ByteArray)) ++ a0_4) ++ (strOfNums y123)).size + 4 ≤ 9223372036854775807 then (if ((((((((((t120 ++ (⟨#[1, 6, 0]⟩ : ByteArray)) ++ t121) ++ (⟨#[0, 0, 0, 0]⟩ : ByteArray)) ++ (⟨#[0, 0, 0, 0]⟩ : ByteArray)) ++ t122) ++ (⟨#[0, 0, 0, 0]⟩ : ByteArray)) ++ (⟨#[0, 0, 0, 0]⟩ : ByteArray)) ++ a0_4) ++ (strOfNums y123)) ++ (⟨#[99, 130, 83, 99]⟩ : ByteArray)).size + 2 ≤ 9223372036854775807 then ((spec_l01Number.f k a0_2 1).bind fun t126 => (if (((((((((((t120 ++ (⟨#[1, 6, 0]⟩ : ByteArray)) ++ t121) ++ (⟨#[0, 0, 0, 0]⟩ : ByteArray)) ++ (⟨#[0, 0, 0, 0]⟩ : ByteArray)) ++ t122) ++ (⟨#[0, 0, 0, 0]⟩ : ByteArray)) ++ (⟨#[0, 0, 0, 0]⟩ : ByteArray)) ++ a0_4) ++ (strOfNums y123)) ++ (⟨#[99, 130, 83, 99]⟩ : ByteArray)) ++ (⟨#[53, 1]⟩ : ByteArray)).size + t126.size ≤ 9223372036854775807 then (if ((((((((((((t120 ++ (⟨#[1, 6, 0]⟩ : ByteArray)) ++ t121) ++ (⟨#[0, 0, 0, 0]⟩ : ByteArray)) ++ (⟨#[0, 0, 0, 0]⟩ : ByteArray)) ++ t122) ++ (⟨#[0, 0, 0, 0]⟩ : ByteArray)) ++ (⟨#[0, 0, 0, 0]⟩ : ByteArray)) ++ a0_4) ++ (strOfNums y123)) ++ (⟨#[99, 130, 83, 99]⟩ : ByteArray)) ++ (⟨#[53, 1]⟩ : ByteArray)) ++ t126).size + 1 ≤ 9223372036854775807 then (some (((((((((((((t120 ++ (⟨#[1, 6, 0]⟩ : ByteArray)) ++ t121) ++ (⟨#[0, 0, 0, 0]⟩ : ByteArray)) ++ (⟨#[0, 0, 0, 0]⟩ : ByteArray)) ++ t122) ++ (⟨#[0, 0, 0, 0]⟩ : ByteArray)) ++ (⟨#[0, 0, 0, 0]⟩ : ByteArray)) ++ a0_4) ++ (strOfNums y123)) ++ (⟨#[99, 130, 83, 99]⟩ : ByteArray)) ++ (⟨#[53, 1]⟩ : ByteArray)) ++ t126) ++ (⟨#[255]⟩ : ByteArray))) else (none)) else (none))) else (none)) else (none)) else (none))) else (none)) else (none)) else (none)) else (none)) else (none))) else (none)) else (none)) else (none)) = some r := H
    have A5 := Aside0.mk A50
    clear A50
    by_cases c6 : (t120 ++ (⟨#[1, 6, 0]⟩ : ByteArray)).size + t121.size ≤ 9223372036854775807
    · rw [if_pos c6] at H
      have c6b0 := eq_true c6
      have c6b1 : decide ((t120 ++ (⟨#[1, 6, 0]⟩ : ByteArray)).size + t121.size ≤ 9223372036854775807) = true := decide_eq_true c6
      try have c6b2 : (9223372036854775807 < (t120 ++ (⟨#[1, 6, 0]⟩ : ByteArray)).size + t121.size) = False := eq_false (Nat.not_lt.2 c6)
      try have c6b3 := c6b2
      try simp only [ByteArray.size_append, show (⟨#[1, 6, 0]⟩ : ByteArray).size = 3 from rfl] at c6b3
      by_cases c7 : ((t120 ++ (⟨#[1, 6, 0]⟩ : ByteArray)) ++ t121).size + 4 ≤ 9223372036854775807
      · rw [if_pos c7] at H
        have c7b0 := eq_true c7
        have c7b1 : decide (((t120 ++ (⟨#[1, 6, 0]⟩ : ByteArray)) ++ t121).size + 4 ≤ 9223372036854775807) = true := decide_eq_true c7
        try have c7b2 : (9223372036854775807 < ((t120 ++ (⟨#[1, 6, 0]⟩ : ByteArray)) ++ t121).size + 4) = False := eq_false (Nat.not_lt.2 c7)
        try have c7b3 := c7b2
        try simp only [ByteArray.size_append, show (⟨#[1, 6, 0]⟩ : ByteArray).size = 3 from rfl] at c7b3
        by_cases c8 : (((t120 ++ (⟨#[1, 6, 0]⟩ : ByteArray)) ++ t121) ++ (⟨#[0, 0, 0, 0]⟩ : ByteArray)).size + 4 ≤ 9223372036854775807
        · rw [if_pos c8] at H
          have c8b0 := eq_true c8
          have c8b1 : decide ((((t120 ++ (⟨#[1, 6, 0]⟩ : ByteArray)) ++ t121) ++ (⟨#[0, 0, 0, 0]⟩ : ByteArray)).size + 4 ≤ 9223372036854775807) = true := decide_eq_true c8
          try have c8b2 : (9223372036854775807 < (((t120 ++ (⟨#[1, 6, 0]⟩ : ByteArray)) ++ t121) ++ (⟨#[0, 0, 0, 0]⟩ : ByteArray)).size + 4) = False := eq_false (Nat.not_lt.2 c8)
          try have c8b3 := c8b2
          try simp only [ByteArray.size_append, show (⟨#[0, 0, 0, 0]⟩ : ByteArray).size = 4 from rfl, show (⟨#[1, 6, 0]⟩ : ByteArray).size = 3 from rfl] at c8b3
          replace H := Option.bind_eq_some_iff.mp H
          obtain ⟨t122, A90, H⟩ := H
          replace H : (if ((((t120 ++ (⟨#[1, 6, 0]⟩ : ByteArray)) ++ t121) ++ (⟨#[0, 0, 0, 0]⟩ : ByteArray)) ++ (⟨#[0, 0, 0, 0]⟩ : ByteArray)).size + t122.size ≤ 9223372036854775807 then (if (((((t120 ++ (⟨#[1, 6, 0]⟩ : ByteArray)) ++ t121) ++ (⟨#[0, 0, 0, 0]⟩ : ByteArray)) ++ (⟨#[0, 0, 0, 0]⟩ : ByteArray)) ++ t122).size + 4 ≤ 9223372036854775807 then (if ((((((t120 ++ (⟨#[1, 6, 0]⟩ : ByteArray)) ++ t121) ++ (⟨#[0, 0, 0, 0]⟩ : ByteArray)) ++ (⟨#[0, 0, 0, 0]⟩ : ByteArray)) ++ t122) ++ (⟨#[0, 0, 0, 0]⟩ : ByteArray)).size + 4 ≤ 9223372036854775807 then (if (((((((t120 ++ (⟨#[1, 6, 0]⟩ : ByteArray)) ++ t121) ++ (⟨#[0, 0, 0, 0]⟩ : ByteArray)) ++ (⟨#[0, 0, 0, 0]⟩ : ByteArray)) ++ t122) ++ (⟨#[0, 0, 0, 0]⟩ : ByteArray)) ++ (⟨#[0, 0, 0, 0]⟩ : ByteArray)).size + a0_4.size ≤ 9223372036854775807 then (if 202 ≤ 281474976710656 then ((some (List.replicate 202 0 : List Int)).bind fun y123 => (if ((((((((t120 ++ (⟨#[1, 6, 0]⟩ : ByteArray)) ++ t121) ++ (⟨#[0, 0, 0, 0]⟩ : ByteArray)) ++ (⟨#[0, 0, 0, 0]⟩ : ByteArray)) ++ t122) ++ (⟨#[0, 0, 0, 0]⟩ : ByteArray)) ++ (⟨#[0, 0, 0, 0]⟩ : ByteArray)) ++ a0_4).size + (strOfNums y123).size ≤ 9223372036854775807 then (if (((((((((t120 ++ (⟨#[1, 6, 0]⟩ : ByteArray)) ++ t121) ++ (⟨#[0, 0, 0, 0]⟩ : ByteArray)) ++ (⟨#[0, 0, 0, 0]⟩ : ByteArray)) ++ t122) ++ (⟨#[0, 0, 0, 0]⟩ : ByteArray)) ++ (⟨#[0, 0, 0, 0]⟩ : ByteArray)) ++ a0_4) ++ (strOfNums y123)).size + 4 ≤ 9223372036854775807 then (if ((((((((((t120 ++ (⟨#[1, 6, 0]⟩ : ByteArray)) ++ t121) ++ (⟨#[0, 0, 0, 0]⟩ : ByteArray)) ++ (⟨#[0, 0, 0, 0]⟩ : ByteArray)) ++ t122) ++ (⟨#[0, 0, 0, 0]⟩ : ByteArray)) ++ (⟨#[0, 0, 0, 0]⟩ : ByteArray)) ++ a0_4) ++ (strOfNums y123)) ++ (⟨#[99, 130, 83, 99]⟩ : ByteArray)).size + 2 ≤ 9223372036854775807 then ((spec_l01Number.f k a0_2 1).bind fun t126 => (if (((((((((((t120 ++ (⟨#[1, 6, 0]⟩ : ByteArray)) ++ t121) ++ (⟨#[0, 0, 0, 0]⟩ : ByteArray)) ++ (⟨#[0, 0, 0, 0]⟩ : ByteArray)) ++ t122) ++ (⟨#[0, 0, 0, 0]⟩ : ByteArray)) ++ (⟨#[0, 0, 0, 0]⟩ : ByteArray)) ++ a0_4) ++ (strOfNums y123)) ++ (⟨#[99, 130, 83, 99]⟩ : ByteArray)) ++ (⟨#[53, 1]⟩ : ByteArray)).size + t126.size ≤ 9223372036854775807 then (if ((((((((((((t120 ++ (⟨#[1, 6, 0]⟩ : ByteArray)) ++ t121) ++ (⟨#[0, 0, 0, 0]⟩ : ByteArray)) ++ (⟨#[0, 0, 0, 0]⟩ : ByteArray)) ++ t122) ++ (⟨#[0, 0, 0, 0]⟩ : ByteArray)) ++ (⟨#[0, 0, 0, 0]⟩ : ByteArray)) ++ a0_4) ++ (strOfNums y123)) ++ (⟨#[99, 130, 83, 99]⟩ : ByteArray)) ++ (⟨#[53, 1]⟩ : ByteArray)) ++ t126).size + 1 ≤ 9223372036854775807 then (some (((((((((((((t120 ++ (⟨#[1, 6, 0]⟩ : ByteArray)) ++ t121) ++ (⟨#[0, 0, 0, 0]⟩ : ByteArray)) ++ (⟨#[0, 0, 0, 0]⟩ : ByteArray)) ++ t122) ++ (⟨#[0, 0, 0, 0]⟩ : ByteArray)) ++ (⟨#[0, 0, 0, 0]⟩ : ByteArray)) ++ a0_4) ++ (strOfNums y123)) ++ (⟨#[99, 130, 83, 99]⟩ : ByteArray)) ++ (⟨#[53, 1]⟩ : ByteArray)) ++ t126) ++ (⟨#[255]⟩ : ByteArray))) else (none)) else (none))) else (none)) else (none)) else (none))) else (none)) else (none)) else (none)) else (none)) else (none)) = some r := H
          have A9 := Aside0.mk A90
          clear A90
          by_cases c10 : ((((t120 ++ (⟨#[1, 6, 0]⟩ : ByteArray)) ++ t121) ++ (⟨#[0, 0, 0, 0]⟩ : ByteArray)) ++ (⟨#[0, 0, 0, 0]⟩ : ByteArray)).size + t122.size ≤ 9223372036854775807
          · rw [if_pos c10] at H
            have c10b0 := eq_true c10
            have c10b1 : decide (((((t120 ++ (⟨#[1, 6, 0]⟩ : ByteArray)) ++ t121) ++ (⟨#[0, 0, 0, 0]⟩ : ByteArray)) ++ (⟨#[0, 0, 0, 0]⟩ : ByteArray)).size + t122.size ≤ 9223372036854775807) = true := decide_eq_true c10
            try have c10b2 : (9223372036854775807 < ((((t120 ++ (⟨#[1, 6, 0]⟩ : ByteArray)) ++ t121) ++ (⟨#[0, 0, 0, 0]⟩ : ByteArray)) ++ (⟨#[0, 0, 0, 0]⟩ : ByteArray)).size + t122.size) = False := eq_false (Nat.not_lt.2 c10)
            try have c10b3 := c10b2
            try simp only [ByteArray.size_append, show (⟨#[0, 0, 0, 0]⟩ : ByteArray).size = 4 from rfl, show (⟨#[1, 6, 0]⟩ : ByteArray).size = 3 from rfl] at c10b3
            by_cases c11 : (((((t120 ++ (⟨#[1, 6, 0]⟩ : ByteArray)) ++ t121) ++ (⟨#[0, 0, 0, 0]⟩ : ByteArray)) ++ (⟨#[0, 0, 0, 0]⟩ : ByteArray)) ++ t122).size + 4 ≤ 9223372036854775807
            · rw [if_pos c11] at H
              have c11b0 := eq_true c11
              have c11b1 : decide ((((((t120 ++ (⟨#[1, 6, 0]⟩ : ByteArray)) ++ t121) ++ (⟨#[0, 0, 0, 0]⟩ : ByteArray)) ++ (⟨#[0, 0, 0, 0]⟩ : ByteArray)) ++ t122).size + 4 ≤ 9223372036854775807) = true := decide_eq_true c11
              try have c11b2 : (9223372036854775807 < (((((t120 ++ (⟨#[1, 6, 0]⟩ : ByteArray)) ++ t121) ++ (⟨#[0, 0, 0, 0]⟩ : ByteArray)) ++ (⟨#[0, 0, 0, 0]⟩ : ByteArray)) ++ t122).size + 4) = False := eq_false (Nat.not_lt.2 c11)
              try have c11b3 := c11b2
              try simp only [ByteArray.size_append, show (⟨#[0, 0, 0, 0]⟩ : ByteArray).size = 4 from rfl, show (⟨#[1, 6, 0]⟩ : ByteArray).size = 3 from rfl] at c11b3
              by_cases c12 : ((((((t120 ++ (⟨#[1, 6, 0]⟩ : ByteArray)) ++ t121) ++ (⟨#[0, 0, 0, 0]⟩ : ByteArray)) ++ (⟨#[0, 0, 0, 0]⟩ : ByteArray)) ++ t122) ++ (⟨#[0, 0, 0, 0]⟩ : ByteArray)).size + 4 ≤ 9223372036854775807
              · rw [if_pos c12] at H
                have c12b0 := eq_true c12
                have c12b1 : decide (((((((t120 ++ (⟨#[1, 6, 0]⟩ : ByteArray)) ++ t121) ++ (⟨#[0, 0, 0, 0]⟩ : ByteArray)) ++ (⟨#[0, 0, 0, 0]⟩ : ByteArray)) ++ t122) ++ (⟨#[0, 0, 0, 0]⟩ : ByteArray)).size + 4 ≤ 9223372036854775807) = true := decide_eq_true c12
                try have c12b2 : (9223372036854775807 < ((((((t120 ++ (⟨#[1, 6, 0]⟩ : ByteArray)) ++ t121) ++ (⟨#[0, 0, 0, 0]⟩ : ByteArray)) ++ (⟨#[0, 0, 0, 0]⟩ : ByteArray)) ++ t122) ++ (⟨#[0, 0, 0, 0]⟩ : ByteArray)).size + 4) = False := eq_false (Nat.not_lt.2 c12)
                try have c12b3 := c12b2
                try simp only [ByteArray.size_append, show (⟨#[0, 0, 0, 0]⟩ : ByteArray).size = 4 from rfl, show (⟨#[1, 6, 0]⟩ : ByteArray).size = 3 from rfl] at c12b3
                by_cases c13 : (((((((t120 ++ (⟨#[1, 6, 0]⟩ : ByteArray)) ++ t121) ++ (⟨#[0, 0, 0, 0]⟩ : ByteArray)) ++ (⟨#[0, 0, 0, 0]⟩ : ByteArray)) ++ t122) ++ (⟨#[0, 0, 0, 0]⟩ : ByteArray)) ++ (⟨#[0, 0, 0, 0]⟩ : ByteArray)).size + a0_4.size ≤ 9223372036854775807
                · rw [if_pos c13] at H
                  have c13b0 := eq_true c13
                  have c13b1 : decide ((((((((t120 ++ (⟨#[1, 6, 0]⟩ : ByteArray)) ++ t121) ++ (⟨#[0, 0, 0, 0]⟩ : ByteArray)) ++ (⟨#[0, 0, 0, 0]⟩ : ByteArray)) ++ t122) ++ (⟨#[0, 0, 0, 0]⟩ : ByteArray)) ++ (⟨#[0, 0, 0, 0]⟩ : ByteArray)).size + a0_4.size ≤ 9223372036854775807) = true := decide_eq_true c13
                  try have c13b2 : (9223372036854775807 < (((((((t120 ++ (⟨#[1, 6, 0]⟩ : ByteArray)) ++ t121) ++ (⟨#[0, 0, 0, 0]⟩ : ByteArray)) ++ (⟨#[0, 0, 0, 0]⟩ : ByteArray)) ++ t122) ++ (⟨#[0, 0, 0, 0]⟩ : ByteArray)) ++ (⟨#[0, 0, 0, 0]⟩ : ByteArray)).size + a0_4.size) = False := eq_false (Nat.not_lt.2 c13)
                  try have c13b3 := c13b2
                  try simp only [ByteArray.size_append, show (⟨#[0, 0, 0, 0]⟩ : ByteArray).size = 4 from rfl, show (⟨#[1, 6, 0]⟩ : ByteArray).size = 3 from rfl] at c13b3
                  by_cases c14 : 202 ≤ 281474976710656
                  · rw [if_pos c14] at H
                    have c14b0 := eq_true c14
                    have c14b1 : decide (202 ≤ 281474976710656) = true := decide_eq_true c14
                    clear c14
                    obtain ⟨y123, hy123⟩ : ∃ y_ : List Int, y_ = (List.replicate 202 0) := ⟨_, rfl⟩
                    replace H : (if ((((((((t120 ++ (⟨#[1, 6, 0]⟩ : ByteArray)) ++ t121) ++ (⟨#[0, 0, 0, 0]⟩ : ByteArray)) ++ (⟨#[0, 0, 0, 0]⟩ : ByteArray)) ++ t122) ++ (⟨#[0, 0, 0, 0]⟩ : ByteArray)) ++ (⟨#[0, 0, 0, 0]⟩ : ByteArray)) ++ a0_4).size + (strOfNums y123).size ≤ 9223372036854775807 then (if (((((((((t120 ++ (⟨#[1, 6, 0]⟩ : ByteArray)) ++ t121) ++ (⟨#[0, 0, 0, 0]⟩ : ByteArray)) ++ (⟨#[0, 0, 0, 0]⟩ : ByteArray)) ++ t122) ++ (⟨#[0, 0, 0, 0]⟩ : ByteArray)) ++ (⟨#[0, 0, 0, 0]⟩ : ByteArray)) ++ a0_4) ++ (strOfNums y123)).size + 4 ≤ 9223372036854775807 then (if ((((((((((t120 ++ (⟨#[1, 6, 0]⟩ : ByteArray)) ++ t121) ++ (⟨#[0, 0, 0, 0]⟩ : ByteArray)) ++ (⟨#[0, 0, 0, 0]⟩ : ByteArray)) ++ t122) ++ (⟨#[0, 0, 0, 0]⟩ : ByteArray)) ++ (⟨#[0, 0, 0, 0]⟩ : ByteArray)) ++ a0_4) ++ (strOfNums y123)) ++ (⟨#[99, 130, 83, 99]⟩ : ByteArray)).size + 2 ≤ 9223372036854775807 then ((spec_l01Number.f k a0_2 1).bind fun t126 => (if (((((((((((t120 ++ (⟨#[1, 6, 0]⟩ : ByteArray)) ++ t121) ++ (⟨#[0, 0, 0, 0]⟩ : ByteArray)) ++ (⟨#[0, 0, 0, 0]⟩ : ByteArray)) ++ t122) ++ (⟨#[0, 0, 0, 0]⟩ : ByteArray)) ++ (⟨#[0, 0, 0, 0]⟩ : ByteArray)) ++ a0_4) ++ (strOfNums y123)) ++ (⟨#[99, 130, 83, 99]⟩ : ByteArray)) ++ (⟨#[53, 1]⟩ : ByteArray)).size + t126.size ≤ 9223372036854775807 then (if ((((((((((((t120 ++ (⟨#[1, 6, 0]⟩ : ByteArray)) ++ t121) ++ (⟨#[0, 0, 0, 0]⟩ : ByteArray)) ++ (⟨#[0, 0, 0, 0]⟩ : ByteArray)) ++ t122) ++ (⟨#[0, 0, 0, 0]⟩ : ByteArray)) ++ (⟨#[0, 0, 0, 0]⟩ : ByteArray)) ++ a0_4) ++ (strOfNums y123)) ++ (⟨#[99, 130, 83, 99]⟩ : ByteArray)) ++ (⟨#[53, 1]⟩ : ByteArray)) ++ t126).size + 1 ≤ 9223372036854775807 then (some (((((((((((((t120 ++ (⟨#[1, 6, 0]⟩ : ByteArray)) ++ t121) ++ (⟨#[0, 0, 0, 0]⟩ : ByteArray)) ++ (⟨#[0, 0, 0, 0]⟩ : ByteArray)) ++ t122) ++ (⟨#[0, 0, 0, 0]⟩ : ByteArray)) ++ (⟨#[0, 0, 0, 0]⟩ : ByteArray)) ++ a0_4) ++ (strOfNums y123)) ++ (⟨#[99, 130, 83, 99]⟩ : ByteArray)) ++ (⟨#[53, 1]⟩ : ByteArray)) ++ t126) ++ (⟨#[255]⟩ : ByteArray))) else (none)) else (none))) else (none)) else (none)) else (none)) = some r := by first | (rw [hy123]; with_reducible exact H) | (have H2_ := (Option.bind_some _ _).symm.trans H; rw [hy123]; with_reducible exact H2_) | (have H2_ := (Option.bind_some _ _).symm.trans H; with_reducible exact H2_) | with_reducible exact H | (rw [hy123]; exact H) | exact H
                    have Ny123 := Aside0.mk hy123
                    clear hy123
                    by_cases c15 : ((((((((t120 ++ (⟨#[1, 6, 0]⟩ : ByteArray)) ++ t121) ++ (⟨#[0, 0, 0, 0]⟩ : ByteArray)) ++ (⟨#[0, 0, 0, 0]⟩ : ByteArray)) ++ t122) ++ (⟨#[0, 0, 0, 0]⟩ : ByteArray)) ++ (⟨#[0, 0, 0, 0]⟩ : ByteArray)) ++ a0_4).size + (strOfNums y123).size ≤ 9223372036854775807
                    · rw [if_pos c15] at H
                      have c15b0 := eq_true c15
                      have c15b1 : decide (((((((((t120 ++ (⟨#[1, 6, 0]⟩ : ByteArray)) ++ t121) ++ (⟨#[0, 0, 0, 0]⟩ : ByteArray)) ++ (⟨#[0, 0, 0, 0]⟩ : ByteArray)) ++ t122) ++ (⟨#[0, 0, 0, 0]⟩ : ByteArray)) ++ (⟨#[0, 0, 0, 0]⟩ : ByteArray)) ++ a0_4).size + (strOfNums y123).size ≤ 9223372036854775807) = true := decide_eq_true c15
                      try have c15b2 : (9223372036854775807 < ((((((((t120 ++ (⟨#[1, 6, 0]⟩ : ByteArray)) ++ t121) ++ (⟨#[0, 0, 0, 0]⟩ : ByteArray)) ++ (⟨#[0, 0, 0, 0]⟩ : ByteArray)) ++ t122) ++ (⟨#[0, 0, 0, 0]⟩ : ByteArray)) ++ (⟨#[0, 0, 0, 0]⟩ : ByteArray)) ++ a0_4).size + (strOfNums y123).size) = False := eq_false (Nat.not_lt.2 c15)
                      try have c15b3 := c15b2
                      try simp only [ByteArray.size_append, show (⟨#[0, 0, 0, 0]⟩ : ByteArray).size = 4 from rfl, show (⟨#[1, 6, 0]⟩ : ByteArray).size = 3 from rfl] at c15b3
                      by_cases c16 : (((((((((t120 ++ (⟨#[1, 6, 0]⟩ : ByteArray)) ++ t121) ++ (⟨#[0, 0, 0, 0]⟩ : ByteArray)) ++ (⟨#[0, 0, 0, 0]⟩ : ByteArray)) ++ t122) ++ (⟨#[0, 0, 0, 0]⟩ : ByteArray)) ++ (⟨#[0, 0, 0, 0]⟩ : ByteArray)) ++ a0_4) ++ (strOfNums y123)).size + 4 ≤ 9223372036854775807
                      · rw [if_pos c16] at H
                        have c16b0 := eq_true c16
                        have c16b1 : decide ((((((((((t120 ++ (⟨#[1, 6, 0]⟩ : ByteArray)) ++ t121) ++ (⟨#[0, 0, 0, 0]⟩ : ByteArray)) ++ (⟨#[0, 0, 0, 0]⟩ : ByteArray)) ++ t122) ++ (⟨#[0, 0, 0, 0]⟩ : ByteArray)) ++ (⟨#[0, 0, 0, 0]⟩ : ByteArray)) ++ a0_4) ++ (strOfNums y123)).size + 4 ≤ 9223372036854775807) = true := decide_eq_true c16
                        try have c16b2 : (9223372036854775807 < (((((((((t120 ++ (⟨#[1, 6, 0]⟩ : ByteArray)) ++ t121) ++ (⟨#[0, 0, 0, 0]⟩ : ByteArray)) ++ (⟨#[0, 0, 0, 0]⟩ : ByteArray)) ++ t122) ++ (⟨#[0, 0, 0, 0]⟩ : ByteArray)) ++ (⟨#[0, 0, 0, 0]⟩ : ByteArray)) ++ a0_4) ++ (strOfNums y123)).size + 4) = False := eq_false (Nat.not_lt.2 c16)
                        try have c16b3 := c16b2
                        try simp only [ByteArray.size_append, show (⟨#[0, 0, 0, 0]⟩ : ByteArray).size = 4 from rfl, show (⟨#[1, 6, 0]⟩ : ByteArray).size = 3 from rfl] at c16b3
                        by_cases c17 : ((((((((((t120 ++ (⟨#[1, 6, 0]⟩ : ByteArray)) ++ t121) ++ (⟨#[0, 0, 0, 0]⟩ : ByteArray)) ++ (⟨#[0, 0, 0, 0]⟩ : ByteArray)) ++ t122) ++ (⟨#[0, 0, 0, 0]⟩ : ByteArray)) ++ (⟨#[0, 0, 0, 0]⟩ : ByteArray)) ++ a0_4) ++ (strOfNums y123)) ++ (⟨#[99, 130, 83, 99]⟩ : ByteArray)).size + 2 ≤ 9223372036854775807
                        · rw [if_pos c17] at H
                          have c17b0 := eq_true c17
                          have c17b1 : decide (((((((((((t120 ++ (⟨#[1, 6, 0]⟩ : ByteArray)) ++ t121) ++ (⟨#[0, 0, 0, 0]⟩ : ByteArray)) ++ (⟨#[0, 0, 0, 0]⟩ : ByteArray)) ++ t122) ++ (⟨#[0, 0, 0, 0]⟩ : ByteArray)) ++ (⟨#[0, 0, 0, 0]⟩ : ByteArray)) ++ a0_4) ++ (strOfNums y123)) ++ (⟨#[99, 130, 83, 99]⟩ : ByteArray)).size + 2 ≤ 9223372036854775807) = true := decide_eq_true c17
                          try have c17b2 : (9223372036854775807 < ((((((((((t120 ++ (⟨#[1, 6, 0]⟩ : ByteArray)) ++ t121) ++ (⟨#[0, 0, 0, 0]⟩ : ByteArray)) ++ (⟨#[0, 0, 0, 0]⟩ : ByteArray)) ++ t122) ++ (⟨#[0, 0, 0, 0]⟩ : ByteArray)) ++ (⟨#[0, 0, 0, 0]⟩ : ByteArray)) ++ a0_4) ++ (strOfNums y123)) ++ (⟨#[99, 130, 83, 99]⟩ : ByteArray)).size + 2) = False := eq_false (Nat.not_lt.2 c17)
                          try have c17b3 := c17b2
                          try simp only [ByteArray.size_append, show (⟨#[0, 0, 0, 0]⟩ : ByteArray).size = 4 from rfl, show (⟨#[1, 6, 0]⟩ : ByteArray).size = 3 from rfl, show (⟨#[99, 130, 83, 99]⟩ : ByteArray).size = 4 from rfl] at c17b3
                          replace H := Option.bind_eq_some_iff.mp H
                          obtain ⟨t126, A180, H⟩ := H
                          replace H : (if (((((((((((t120 ++ (⟨#[1, 6, 0]⟩ : ByteArray)) ++ t121) ++ (⟨#[0, 0, 0, 0]⟩ : ByteArray)) ++ (⟨#[0, 0, 0, 0]⟩ : ByteArray)) ++ t122) ++ (⟨#[0, 0, 0, 0]⟩ : ByteArray)) ++ (⟨#[0, 0, 0, 0]⟩ : ByteArray)) ++ a0_4) ++ (strOfNums y123)) ++ (⟨#[99, 130, 83, 99]⟩ : ByteArray)) ++ (⟨#[53, 1]⟩ : ByteArray)).size + t126.size ≤ 9223372036854775807 then (if ((((((((((((t120 ++ (⟨#[1, 6, 0]⟩ : ByteArray)) ++ t121) ++ (⟨#[0, 0, 0, 0]⟩ : ByteArray)) ++ (⟨#[0, 0, 0, 0]⟩ : ByteArray)) ++ t122) ++ (⟨#[0, 0, 0, 0]⟩ : ByteArray)) ++ (⟨#[0, 0, 0, 0]⟩ : ByteArray)) ++ a0_4) ++ (strOfNums y123)) ++ (⟨#[99, 130, 83, 99]⟩ : ByteArray)) ++ (⟨#[53, 1]⟩ : ByteArray)) ++ t126).size + 1 ≤ 9223372036854775807 then (some (((((((((((((t120 ++ (⟨#[1, 6, 0]⟩ : ByteArray)) ++ t121) ++ (⟨#[0, 0, 0, 0]⟩ : ByteArray)) ++ (⟨#[0, 0, 0, 0]⟩ : ByteArray)) ++ t122) ++ (⟨#[0, 0, 0, 0]⟩ : ByteArray)) ++ (⟨#[0, 0, 0, 0]⟩ : ByteArray)) ++ a0_4) ++ (strOfNums y123)) ++ (⟨#[99, 130, 83, 99]⟩ : ByteArray)) ++ (⟨#[53, 1]⟩ : ByteArray)) ++ t126) ++ (⟨#[255]⟩ : ByteArray))) else (none)) else (none)) = some r := H
                          have A18 := Aside0.mk A180
                          clear A180
                          by_cases c19 : (((((((((((t120 ++ (⟨#[1, 6, 0]⟩ : ByteArray)) ++ t121) ++ (⟨#[0, 0, 0, 0]⟩ : ByteArray)) ++ (⟨#[0, 0, 0, 0]⟩ : ByteArray)) ++ t122) ++ (⟨#[0, 0, 0, 0]⟩ : ByteArray)) ++ (⟨#[0, 0, 0, 0]⟩ : ByteArray)) ++ a0_4) ++ (strOfNums y123)) ++ (⟨#[99, 130, 83, 99]⟩ : ByteArray)) ++ (⟨#[53, 1]⟩ : ByteArray)).size + t126.size ≤ 9223372036854775807
                          · rw [if_pos c19] at H
                            have c19b0 := eq_true c19
                            have c19b1 : decide ((((((((((((t120 ++ (⟨#[1, 6, 0]⟩ : ByteArray)) ++ t121) ++ (⟨#[0, 0, 0, 0]⟩ : ByteArray)) ++ (⟨#[0, 0, 0, 0]⟩ : ByteArray)) ++ t122) ++ (⟨#[0, 0, 0, 0]⟩ : ByteArray)) ++ (⟨#[0, 0, 0, 0]⟩ : ByteArray)) ++ a0_4) ++ (strOfNums y123)) ++ (⟨#[99, 130, 83, 99]⟩ : ByteArray)) ++ (⟨#[53, 1]⟩ : ByteArray)).size + t126.size ≤ 9223372036854775807) = true := decide_eq_true c19
                            try have c19b2 : (9223372036854775807 < (((((((((((t120 ++ (⟨#[1, 6, 0]⟩ : ByteArray)) ++ t121) ++ (⟨#[0, 0, 0, 0]⟩ : ByteArray)) ++ (⟨#[0, 0, 0, 0]⟩ : ByteArray)) ++ t122) ++ (⟨#[0, 0, 0, 0]⟩ : ByteArray)) ++ (⟨#[0, 0, 0, 0]⟩ : ByteArray)) ++ a0_4) ++ (strOfNums y123)) ++ (⟨#[99, 130, 83, 99]⟩ : ByteArray)) ++ (⟨#[53, 1]⟩ : ByteArray)).size + t126.size) = False := eq_false (Nat.not_lt.2 c19)
                            try have c19b3 := c19b2
                            try simp only [ByteArray.size_append, show (⟨#[0, 0, 0, 0]⟩ : ByteArray).size = 4 from rfl, show (⟨#[1, 6, 0]⟩ : ByteArray).size = 3 from rfl, show (⟨#[53, 1]⟩ : ByteArray).size = 2 from rfl, show (⟨#[99, 130, 83, 99]⟩ : ByteArray).size = 4 from rfl] at c19b3
                            by_cases c20 : ((((((((((((t120 ++ (⟨#[1, 6, 0]⟩ : ByteArray)) ++ t121) ++ (⟨#[0, 0, 0, 0]⟩ : ByteArray)) ++ (⟨#[0, 0, 0, 0]⟩ : ByteArray)) ++ t122) ++ (⟨#[0, 0, 0, 0]⟩ : ByteArray)) ++ (⟨#[0, 0, 0, 0]⟩ : ByteArray)) ++ a0_4) ++ (strOfNums y123)) ++ (⟨#[99, 130, 83, 99]⟩ : ByteArray)) ++ (⟨#[53, 1]⟩ : ByteArray)) ++ t126).size + 1 ≤ 9223372036854775807
                            · rw [if_pos c20] at H
                              have c20b0 := eq_true c20
                              have c20b1 : decide (((((((((((((t120 ++ (⟨#[1, 6, 0]⟩ : ByteArray)) ++ t121) ++ (⟨#[0, 0, 0, 0]⟩ : ByteArray)) ++ (⟨#[0, 0, 0, 0]⟩ : ByteArray)) ++ t122) ++ (⟨#[0, 0, 0, 0]⟩ : ByteArray)) ++ (⟨#[0, 0, 0, 0]⟩ : ByteArray)) ++ a0_4) ++ (strOfNums y123)) ++ (⟨#[99, 130, 83, 99]⟩ : ByteArray)) ++ (⟨#[53, 1]⟩ : ByteArray)) ++ t126).size + 1 ≤ 9223372036854775807) = true := decide_eq_true c20
                              try have c20b2 : (9223372036854775807 < ((((((((((((t120 ++ (⟨#[1, 6, 0]⟩ : ByteArray)) ++ t121) ++ (⟨#[0, 0, 0, 0]⟩ : ByteArray)) ++ (⟨#[0, 0, 0, 0]⟩ : ByteArray)) ++ t122) ++ (⟨#[0, 0, 0, 0]⟩ : ByteArray)) ++ (⟨#[0, 0, 0, 0]⟩ : ByteArray)) ++ a0_4) ++ (strOfNums y123)) ++ (⟨#[99, 130, 83, 99]⟩ : ByteArray)) ++ (⟨#[53, 1]⟩ : ByteArray)) ++ t126).size + 1) = False := eq_false (Nat.not_lt.2 c20)
                              try have c20b3 := c20b2
                              try simp only [ByteArray.size_append, show (⟨#[0, 0, 0, 0]⟩ : ByteArray).size = 4 from rfl, show (⟨#[1, 6, 0]⟩ : ByteArray).size = 3 from rfl, show (⟨#[53, 1]⟩ : ByteArray).size = 2 from rfl, show (⟨#[99, 130, 83, 99]⟩ : ByteArray).size = 4 from rfl] at c20b3
                              obtain rfl := Option.some.inj H
                              go_enter Try.func72, Try.ntmps72
                              try go_wp2_with (first | ((with_reducible refine gate_dst (N := 1) rfl ?_); refine box_event ?hg (N := 1) ?hd (cs := #[.int .i64 a0_0, .int .i64 a0_1, .int .i64 a0_2, .bool a0_3, .string a0_4]) (t := 46) ?hr ?_; (case hd => rfl); (case hg => rfl); (case hr => first | (go_simp; done) | (go_simp; rfl)); intro gb118 hg w21 hbox hb; have n0_ := Aside0.mk (below_step (by repeat (first | (with_reducible first | exact HB.out | apply below_alloc | apply pw_below_drewN | apply below_drew1) | exact HB.out)) hb); have n1_ := Aside0.mk (hbox); have n2_ := Aside0.mk ((by rw [hg]; exact (below_size (by repeat (first | (with_reducible first | exact HB.out | apply below_alloc | apply pw_below_drewN | apply below_drew1) | exact HB.out))) : w.heap.size ≤ gb118)); have n3_ := Aside0.mk ((by rw [hg]; exact (below_size (by repeat (first | (with_reducible first | exact HB.out | apply below_alloc | apply pw_below_drewN | apply below_drew1) | exact HB.out))) : w.heap.size ≤ gb118)); clear HB; have HB := n0_; have BK118 := n1_; have GW118 := n2_; have GE118 := n3_; clear n0_ n1_ n2_ n3_; clear hb hbox hg; have hcz22_0 : w21.cell? ⟨gb118, 0, none⟩ = some (.int .i64 a0_0) := (blk_cell BK118.out 0).trans rfl; have hcz22_1 : w21.cell? ⟨gb118, 1, none⟩ = some (.int .i64 a0_1) := (blk_cell BK118.out 1).trans rfl; have hcz22_2 : w21.cell? ⟨gb118, 2, none⟩ = some (.int .i64 a0_2) := (blk_cell BK118.out 2).trans rfl; have hcz22_3 : w21.cell? ⟨gb118, 3, none⟩ = some (.bool a0_3) := (blk_cell BK118.out 3).trans rfl; have hcz22_4 : w21.cell? ⟨gb118, 4, none⟩ = some (.string a0_4) := (blk_cell BK118.out 4).trans rfl; have hfz22_0 := blk_frozen BK118.out 0; have hfz22_1 := blk_frozen BK118.out 1; have hfz22_2 := blk_frozen BK118.out 2; have hfz22_3 := blk_frozen BK118.out 3; have hfz22_4 := blk_frozen BK118.out 4) | ((with_reducible refine gate_callee (f := 101) rfl ?_); refine goesL_ (some 7) rfl rfl Try.func101 (by kernel_rfl) rfl #[.bool a0_3] rfl (by (try simp only [List.map_toArray, List.map_cons, List.map_nil]); first | done | rfl | (simp only [List.length_drop, List.length_take]; rfl)) ?_; (with_reducible refine (spec_l01Bit.calls a0_3 t119 _ A2.out).mono ?_); rintro e w' ⟨rfl, ⟨nd, rfl⟩⟩; refine ⟨_, rfl, ?_⟩))
                              (try (rw [drewN_self w21]; generalize hq_ : World.drewN w21 _ = w21; have n0_ : Aside0 (w21.heap[gb118]? = some (.cells #[.int .i64 a0_0, .int .i64 a0_1, .int .i64 a0_2, .bool a0_3, .string a0_4] 46 (0, 0))) := ⟨by rw [← hq_]; exact (by (with_reducible repeat (first | refine blk_drewN ?_ _ | refine blk_drew ?_ | refine blk_alloc ?_ _)); exact BK118.out)⟩; have n1_ : Aside0 (Below w.heap.size w w21) := ⟨by rw [← hq_]; exact (by repeat (first | (with_reducible first | exact HB.out | apply below_alloc | apply pw_below_drewN | apply below_drew1 | refine below_set ?_ GE118.out) | exact HB.out))⟩; clear BK118 HB hq_; have BK118 := n0_; have HB := n1_; clear n0_ n1_))
                              have n0_ := Aside0.mk (blk_drew BK118.out)
                              have n1_ := Aside0.mk (below_drew1 HB.out)
                              clear BK118
                              clear HB
                              have BK118 := n0_
                              have HB := n1_
                              clear n0_ n1_
                              refine start_ (n := 16) (S := fun w' => w'.cell? ⟨gb118, 0, none⟩ = some (.int .i64 a0_0) ∧ w'.cell? ⟨gb118, 1, none⟩ = some (.int .i64 a0_1) ∧ w'.cell? ⟨gb118, 2, none⟩ = some (.int .i64 a0_2) ∧ w'.cell? ⟨gb118, 3, none⟩ = some (.bool a0_3) ∧ w'.cell? ⟨gb118, 4, none⟩ = some (.string a0_4)) (ds := []) #[false, false, false, false, false, false, false, false, false, false, false, false, false, false, false, false] (by kernel_rfl) rfl rfl ⟨(blk_cell BK118.out 0).trans rfl, (blk_cell BK118.out 1).trans rfl, (blk_cell BK118.out 2).trans rfl, (blk_cell BK118.out 3).trans rfl, (blk_cell BK118.out 4).trans rfl⟩ (fun hHeld => ?_); refine with_tabW spec_l03DhcpBytes.tab2 spec_l03DhcpBytes.bits2 (fun HT_ HW_ => ?_)
                              generalize w21.drew = w23 at BK118 HB hHeld ⊢
                              refine pure_ (i := 0) (N := some 9) (v := ?_) (a' := ?_) #[true, false, false, false, false, false, false, false, false, false, false, false, false, false, false, false] rfl rfl (any_of HT_.out (by kernel_rfl)) (fun _ _ _ h => h) (Or.inl ⟨by rfl, ?_⟩) ?_ ?_
                              rotate_left
                              · intro w'
                                go_simp
                                with_reducible rfl
                              rotate_left
                              · simp only [Act.put, List.setIfInBounds_toArray, List.set_cons_zero, List.set_cons_succ, i64_w, i32_w]
                                rfl
                              refine pure_ (i := 3) (N := some 12) (v := ?_) (a' := ?_) #[true, false, false, true, false, false, false, false, false, false, false, false, false, false, false, false] rfl rfl (any_of HT_.out (by kernel_rfl)) (fun _ _ _ h => h) (Or.inl ⟨by rfl, ?_⟩) ?_ ?_
                              rotate_left
                              · intro w'
                                go_simp
                                with_reducible rfl
                              rotate_left
                              · simp only [Act.put, List.setIfInBounds_toArray, List.set_cons_zero, List.set_cons_succ, i64_w, i32_w]
                                rfl
                              refine pure_ (i := 9) (N := some 18) (v := ?_) (a' := ?_) #[true, false, false, true, false, false, false, false, false, true, false, false, false, false, false, false] rfl rfl (any_of HT_.out (by kernel_rfl)) (fun _ _ _ h => h) (Or.inl ⟨by rfl, ?_⟩) ?_ ?_
                              rotate_left
                              · intro w'
                                go_simp
                                with_reducible rfl
                              rotate_left
                              · simp only [Act.put, List.setIfInBounds_toArray, List.set_cons_zero, List.set_cons_succ, i64_w, i32_w]
                                rfl
                              refine take_ (i := 4) (N := some 13) (v := ?_) (a' := ?_) #[true, false, false, true, true, false, false, false, false, true, false, false, false, false, false, false] rfl rfl (take_ofW HT_.out HW_.out (by kernel_rfl)) (fun _ _ _ h => h) (Or.inl ⟨by rfl, ?_⟩) hHeld ?_ ?_
                              rotate_left
                              · rintro w' ⟨s0, s1, s2, s3, s4⟩
                                go_simp
                                with_reducible rfl
                              rotate_left
                              · simp only [Act.put, List.setIfInBounds_toArray, List.set_cons_zero, List.set_cons_succ, i64_w, i32_w]
                                rfl
                              refine take_ (i := 10) (N := some 19) (v := ?_) (a' := ?_) #[true, false, false, true, true, false, false, false, false, true, true, false, false, false, false, false] rfl rfl (take_ofW HT_.out HW_.out (by kernel_rfl)) (fun _ _ _ h => h) (Or.inl ⟨by rfl, ?_⟩) hHeld ?_ ?_
                              rotate_left
                              · rintro w' ⟨s0, s1, s2, s3, s4⟩
                                go_simp
                                with_reducible rfl
                              rotate_left
                              · simp only [Act.put, List.setIfInBounds_toArray, List.set_cons_zero, List.set_cons_succ, i64_w, i32_w]
                                rfl
                              refine one_ (i := 1) (N := some 10) #[true, true, false, true, true, false, false, false, false, true, true, false, false, false, false, false] rfl rfl (one_of HT_.out (by kernel_rfl)) (by decide) (fun K hK => ?_)
                              refine goes_ Try.func60 (by kernel_rfl) rfl #[.int .i64 (wrap64 (1 + t119)), .int .i64 1] (by rfl) rfl rfl (by (try simp only [List.map_toArray, List.map_cons, List.map_nil]); first | done | rfl | (simp only [List.length_drop, List.length_take]; rfl)) ?_
                              with_reducible refine (spec_l01Number.calls k (wrap64 (1 + t119)) 1 t120 _ A3.out).mono ?_
                              rintro e w24 ⟨rfl, hb⟩
                              refine ⟨_, rfl, ?_⟩
                              have n0_ := Aside0.mk (blk_below (g := gb118) (o := .cells #[.int .i64 a0_0, .int .i64 a0_1, .int .i64 a0_2, .bool a0_3, .string a0_4] 46 (0, 0)) (by (with_reducible repeat (first | refine blk_drewN ?_ _ | refine blk_drew ?_ | refine blk_alloc ?_ _)); exact BK118.out) hb)
                              have n1_ := Aside0.mk (below_step (by repeat (first | (with_reducible first | exact HB.out | apply below_alloc | apply pw_below_drewN | apply below_drew1 | refine below_set ?_ GE118.out) | exact HB.out)) hb)
                              clear BK118
                              clear HB
                              have BK118 := n0_
                              have HB := n1_
                              clear n0_ n1_
                              (try clear hb)
                              (try clear hb2)
                              (try clear hk)
                              (try clear hi)
                              refine hK.out _ _ ⟨(blk_cell BK118.out 0).trans rfl, (blk_cell BK118.out 1).trans rfl, (blk_cell BK118.out 2).trans rfl, (blk_cell BK118.out 3).trans rfl, (blk_cell BK118.out 4).trans rfl⟩ (fun hHeld => ?_)
                              clear hK K
                              refine norm_ (a' := ?_) ?_ ?_
                              rotate_left
                              · show Act.put _ (some 10) _ = _
                                simp only [Act.put, List.setIfInBounds_toArray, List.set_cons_zero, List.set_cons_succ, i64_w, i32_w]
                                rfl
                              refine pure_ (i := 2) (N := some 11) (v := ?_) (a' := ?_) #[true, true, true, true, true, false, false, false, false, true, true, false, false, false, false, false] rfl rfl (any_of HT_.out (by kernel_rfl)) (fun _ _ _ h => h) (Or.inl ⟨by rfl, ?_⟩) ?_ ?_
                              rotate_left
                              · intro w'
                                go_simp
                                with_reducible rfl
                              rotate_left
                              · simp only [Act.put, List.setIfInBounds_toArray, List.set_cons_zero, List.set_cons_succ, i64_w, i32_w]
                                rfl
                              refine one_ (i := 5) (N := some 14) #[true, true, true, true, true, true, false, false, false, true, true, false, false, false, false, false] rfl rfl (one_of HT_.out (by kernel_rfl)) (by decide) (fun K hK => ?_)
                              refine goes_ Try.func60 (by kernel_rfl) rfl #[.int .i64 a0_0, .int .i64 4] (by rfl) rfl rfl (by (try simp only [List.map_toArray, List.map_cons, List.map_nil]); first | done | rfl | (simp only [List.length_drop, List.length_take]; rfl)) ?_
                              with_reducible refine (spec_l01Number.calls k a0_0 4 t121 _ A5.out).mono ?_
                              rintro e w25 ⟨rfl, hb⟩
                              refine ⟨_, rfl, ?_⟩
                              have n0_ := Aside0.mk (blk_below (g := gb118) (o := .cells #[.int .i64 a0_0, .int .i64 a0_1, .int .i64 a0_2, .bool a0_3, .string a0_4] 46 (0, 0)) (by (with_reducible repeat (first | refine blk_drewN ?_ _ | refine blk_drew ?_ | refine blk_alloc ?_ _)); exact BK118.out) hb)
                              have n1_ := Aside0.mk (below_step (by repeat (first | (with_reducible first | exact HB.out | apply below_alloc | apply pw_below_drewN | apply below_drew1 | refine below_set ?_ GE118.out) | exact HB.out)) hb)
                              clear BK118
                              clear HB
                              have BK118 := n0_
                              have HB := n1_
                              clear n0_ n1_
                              (try clear hb)
                              (try clear hb2)
                              (try clear hk)
                              (try clear hi)
                              refine hK.out _ _ ⟨(blk_cell BK118.out 0).trans rfl, (blk_cell BK118.out 1).trans rfl, (blk_cell BK118.out 2).trans rfl, (blk_cell BK118.out 3).trans rfl, (blk_cell BK118.out 4).trans rfl⟩ (fun hHeld => ?_)
                              clear hK K
                              refine norm_ (a' := ?_) ?_ ?_
                              rotate_left
                              · show Act.put _ (some 14) _ = _
                                simp only [Act.put, List.setIfInBounds_toArray, List.set_cons_zero, List.set_cons_succ, i64_w, i32_w]
                                rfl
                              refine pure_ (i := 6) (N := some 15) (v := ?_) (a' := ?_) #[true, true, true, true, true, true, true, false, false, true, true, false, false, false, false, false] rfl rfl (any_of HT_.out (by kernel_rfl)) (fun _ _ _ h => h) (Or.inl ⟨by rfl, ?_⟩) ?_ ?_
                              rotate_left
                              · intro w'
                                go_simp
                                with_reducible rfl
                              rotate_left
                              · simp only [Act.put, List.setIfInBounds_toArray, List.set_cons_zero, List.set_cons_succ, i64_w, i32_w]
                                rfl
                              refine pure_ (i := 7) (N := some 16) (v := ?_) (a' := ?_) #[true, true, true, true, true, true, true, true, false, true, true, false, false, false, false, false] rfl rfl (any_of HT_.out (by kernel_rfl)) (fun _ _ _ h => h) (Or.inl ⟨by rfl, ?_⟩) ?_ ?_
                              rotate_left
                              · intro w'
                                go_simp
                                with_reducible rfl
                              rotate_left
                              · simp only [Act.put, List.setIfInBounds_toArray, List.set_cons_zero, List.set_cons_succ, i64_w, i32_w]
                                rfl
                              refine pure_ (i := 8) (N := some 17) (v := ?_) (a' := ?_) #[true, true, true, true, true, true, true, true, true, true, true, false, false, false, false, false] rfl rfl (any_of HT_.out (by kernel_rfl)) (fun _ _ _ h => h) (Or.inl ⟨by rfl, ?_⟩) ?_ ?_
                              rotate_left
                              · intro w'
                                go_simp
                                with_reducible rfl
                              rotate_left
                              · simp only [Act.put, List.setIfInBounds_toArray, List.set_cons_zero, List.set_cons_succ, i64_w, i32_w]
                                rfl
                              refine one_ (i := 11) (N := some 20) #[true, true, true, true, true, true, true, true, true, true, true, true, false, false, false, false] rfl rfl (one_of HT_.out (by kernel_rfl)) (by decide) (fun K hK => ?_)
                              refine goes_ Try.func60 (by kernel_rfl) rfl #[.int .i64 a0_1, .int .i64 4] (by rfl) rfl rfl (by (try simp only [List.map_toArray, List.map_cons, List.map_nil]); first | done | rfl | (simp only [List.length_drop, List.length_take]; rfl)) ?_
                              with_reducible refine (spec_l01Number.calls k a0_1 4 t122 _ A9.out).mono ?_
                              rintro e w26 ⟨rfl, hb⟩
                              refine ⟨_, rfl, ?_⟩
                              have n0_ := Aside0.mk (blk_below (g := gb118) (o := .cells #[.int .i64 a0_0, .int .i64 a0_1, .int .i64 a0_2, .bool a0_3, .string a0_4] 46 (0, 0)) (by (with_reducible repeat (first | refine blk_drewN ?_ _ | refine blk_drew ?_ | refine blk_alloc ?_ _)); exact BK118.out) hb)
                              have n1_ := Aside0.mk (below_step (by repeat (first | (with_reducible first | exact HB.out | apply below_alloc | apply pw_below_drewN | apply below_drew1 | refine below_set ?_ GE118.out) | exact HB.out)) hb)
                              clear BK118
                              clear HB
                              have BK118 := n0_
                              have HB := n1_
                              clear n0_ n1_
                              (try clear hb)
                              (try clear hb2)
                              (try clear hk)
                              (try clear hi)
                              refine hK.out _ _ ⟨(blk_cell BK118.out 0).trans rfl, (blk_cell BK118.out 1).trans rfl, (blk_cell BK118.out 2).trans rfl, (blk_cell BK118.out 3).trans rfl, (blk_cell BK118.out 4).trans rfl⟩ (fun hHeld => ?_)
                              clear hK K
                              refine norm_ (a' := ?_) ?_ ?_
                              rotate_left
                              · show Act.put _ (some 20) _ = _
                                simp only [Act.put, List.setIfInBounds_toArray, List.set_cons_zero, List.set_cons_succ, i64_w, i32_w]
                                rfl
                              refine pure_ (i := 12) (N := some 21) (v := ?_) (a' := ?_) #[true, true, true, true, true, true, true, true, true, true, true, true, true, false, false, false] rfl rfl (any_of HT_.out (by kernel_rfl)) (fun _ _ _ h => h) (Or.inl ⟨by rfl, ?_⟩) ?_ ?_
                              rotate_left
                              · intro w'
                                go_simp
                                with_reducible rfl
                              rotate_left
                              · simp only [Act.put, List.setIfInBounds_toArray, List.set_cons_zero, List.set_cons_succ, i64_w, i32_w]
                                rfl
                              refine pure_ (i := 13) (N := some 22) (v := ?_) (a' := ?_) #[true, true, true, true, true, true, true, true, true, true, true, true, true, true, false, false] rfl rfl (any_of HT_.out (by kernel_rfl)) (fun _ _ _ h => h) (Or.inl ⟨by rfl, ?_⟩) ?_ ?_
                              rotate_left
                              · intro w'
                                go_simp
                                with_reducible rfl
                              rotate_left
                              · simp only [Act.put, List.setIfInBounds_toArray, List.set_cons_zero, List.set_cons_succ, i64_w, i32_w]
                                rfl
                              refine pure_ (i := 14) (N := some 23) (v := ?_) (a' := ?_) #[true, true, true, true, true, true, true, true, true, true, true, true, true, true, true, false] rfl rfl (any_of HT_.out (by kernel_rfl)) (fun _ _ _ h => h) (Or.inl ⟨by rfl, ?_⟩) ?_ ?_
                              rotate_left
                              · intro w'
                                go_simp
                                with_reducible rfl
                              rotate_left
                              · simp only [Act.put, List.setIfInBounds_toArray, List.set_cons_zero, List.set_cons_succ, i64_w, i32_w]
                                rfl
                              refine pure_ (i := 15) (N := some 4) (v := ?_) (a' := ?_) #[true, true, true, true, true, true, true, true, true, true, true, true, true, true, true, true] rfl rfl (any_of HT_.out (by kernel_rfl)) (fun _ _ _ h => h) (Or.inl ⟨by rfl, ?_⟩) ?_ ?_
                              rotate_left
                              · intro w'
                                go_simp
                                with_reducible rfl
                              rotate_left
                              · simp only [Act.put, List.setIfInBounds_toArray, List.set_cons_zero, List.set_cons_succ, i64_w, i32_w]
                                rfl
                              refine done_ (done_of HT_.out (by kernel_rfl)) ?_
                              try go_wp2
                              have n0_ := Aside0.mk (blk_drew BK118.out)
                              have n1_ := Aside0.mk (below_drew1 HB.out)
                              clear BK118
                              clear HB
                              have BK118 := n0_
                              have HB := n1_
                              clear n0_ n1_
                              refine start_ (n := 15) (S := fun w' => w'.cell? ⟨gb118, 0, none⟩ = some (.int .i64 a0_0) ∧ w'.cell? ⟨gb118, 1, none⟩ = some (.int .i64 a0_1) ∧ w'.cell? ⟨gb118, 2, none⟩ = some (.int .i64 a0_2) ∧ w'.cell? ⟨gb118, 3, none⟩ = some (.bool a0_3) ∧ w'.cell? ⟨gb118, 4, none⟩ = some (.string a0_4)) (ds := []) #[false, false, false, false, false, false, false, false, false, false, false, false, false, false, false] (by kernel_rfl) rfl rfl ⟨(blk_cell BK118.out 0).trans rfl, (blk_cell BK118.out 1).trans rfl, (blk_cell BK118.out 2).trans rfl, (blk_cell BK118.out 3).trans rfl, (blk_cell BK118.out 4).trans rfl⟩ (fun hHeld => ?_); refine with_tabW spec_l03DhcpBytes.tab3 spec_l03DhcpBytes.bits3 (fun HT_ HW_ => ?_)
                              generalize w26.drew = w27 at BK118 HB hHeld ⊢
                              refine pure_ (i := 0) (N := some 24) (v := ?_) (a' := ?_) #[true, false, false, false, false, false, false, false, false, false, false, false, false, false, false] rfl rfl (any_of HT_.out (by kernel_rfl)) (fun _ _ _ h => h) (Or.inl ⟨by rfl, ?_⟩) ?_ ?_
                              rotate_left
                              · intro w'
                                go_simp
                                with_reducible rfl
                              rotate_left
                              · simp only [Act.put, List.setIfInBounds_toArray, List.set_cons_zero, List.set_cons_succ, i64_w, i32_w]
                                rfl
                              refine pure_ (i := 1) (N := some 25) (v := ?_) (a' := ?_) #[true, true, false, false, false, false, false, false, false, false, false, false, false, false, false] rfl rfl (any_of HT_.out (by kernel_rfl)) (fun _ _ _ h => h) (Or.inl ⟨by rfl, ?_⟩) ?_ ?_
                              rotate_left
                              · intro w'
                                go_simp
                                with_reducible rfl
                              rotate_left
                              · simp only [Act.put, List.setIfInBounds_toArray, List.set_cons_zero, List.set_cons_succ, i64_w, i32_w]
                                rfl
                              refine pure_ (i := 9) (N := some 33) (v := ?_) (a' := ?_) #[true, true, false, false, false, false, false, false, false, true, false, false, false, false, false] rfl rfl (any_of HT_.out (by kernel_rfl)) (fun _ _ _ h => h) (Or.inl ⟨by rfl, ?_⟩) ?_ ?_
                              rotate_left
                              · intro w'
                                go_simp
                                with_reducible rfl
                              rotate_left
                              · simp only [Act.put, List.setIfInBounds_toArray, List.set_cons_zero, List.set_cons_succ, i64_w, i32_w]
                                rfl
                              refine take_ (i := 2) (N := some 26) (v := ?_) (a' := ?_) #[true, true, true, false, false, false, false, false, false, true, false, false, false, false, false] rfl rfl (take_ofW HT_.out HW_.out (by kernel_rfl)) (fun _ _ _ h => h) (Or.inl ⟨by rfl, ?_⟩) hHeld ?_ ?_
                              rotate_left
                              · rintro w' ⟨s0, s1, s2, s3, s4⟩
                                go_simp
                                with_reducible rfl
                              rotate_left
                              · simp only [Act.put, List.setIfInBounds_toArray, List.set_cons_zero, List.set_cons_succ, i64_w, i32_w]
                                rfl
                              refine pure_ (i := 3) (N := some 27) (v := ?_) (a' := ?_) #[true, true, true, true, false, false, false, false, false, true, false, false, false, false, false] rfl rfl (any_of HT_.out (by kernel_rfl)) (fun _ _ _ h => h) (Or.inl ⟨by rfl, ?_⟩) ?_ ?_
                              rotate_left
                              · intro w'
                                go_simp
                                with_reducible rfl
                              rotate_left
                              · simp only [Act.put, List.setIfInBounds_toArray, List.set_cons_zero, List.set_cons_succ, i64_w, i32_w]
                                rfl
                              refine take_ (i := 10) (N := some 34) (v := ?_) (a' := ?_) #[true, true, true, true, false, false, false, false, false, true, true, false, false, false, false] rfl rfl (take_ofW HT_.out HW_.out (by kernel_rfl)) (fun _ _ _ h => h) (Or.inl ⟨by rfl, ?_⟩) hHeld ?_ ?_
                              rotate_left
                              · rintro w' ⟨s0, s1, s2, s3, s4⟩
                                go_simp
                                with_reducible rfl
                              rotate_left
                              · simp only [Act.put, List.setIfInBounds_toArray, List.set_cons_zero, List.set_cons_succ, i64_w, i32_w]
                                rfl
                              refine join_ (σ := Value) 3 #[true, true, true, true, true, true, true, true, true, true, true, true, false, false, false] (fun s_ => [(28, s_), (29, .string (strOfNums y123)), (35, .string t126), (30, .string (((((((((t120 ++ (⟨#[1, 6, 0]⟩ : ByteArray)) ++ t121) ++ (⟨#[0, 0, 0, 0]⟩ : ByteArray)) ++ (⟨#[0, 0, 0, 0]⟩ : ByteArray)) ++ t122) ++ (⟨#[0, 0, 0, 0]⟩ : ByteArray)) ++ (⟨#[0, 0, 0, 0]⟩ : ByteArray)) ++ a0_4) ++ (strOfNums y123))), (31, .string ((((((((((t120 ++ (⟨#[1, 6, 0]⟩ : ByteArray)) ++ t121) ++ (⟨#[0, 0, 0, 0]⟩ : ByteArray)) ++ (⟨#[0, 0, 0, 0]⟩ : ByteArray)) ++ t122) ++ (⟨#[0, 0, 0, 0]⟩ : ByteArray)) ++ (⟨#[0, 0, 0, 0]⟩ : ByteArray)) ++ a0_4) ++ (strOfNums y123)) ++ (⟨#[99, 130, 83, 99]⟩ : ByteArray))), (32, .string (((((((((((t120 ++ (⟨#[1, 6, 0]⟩ : ByteArray)) ++ t121) ++ (⟨#[0, 0, 0, 0]⟩ : ByteArray)) ++ (⟨#[0, 0, 0, 0]⟩ : ByteArray)) ++ t122) ++ (⟨#[0, 0, 0, 0]⟩ : ByteArray)) ++ (⟨#[0, 0, 0, 0]⟩ : ByteArray)) ++ a0_4) ++ (strOfNums y123)) ++ (⟨#[99, 130, 83, 99]⟩ : ByteArray)) ++ (⟨#[53, 1]⟩ : ByteArray)))]) (fun s_ w' => (w'.cell? ⟨gb118, 0, none⟩ = some (.int .i64 a0_0) ∧ w'.cell? ⟨gb118, 1, none⟩ = some (.int .i64 a0_1) ∧ w'.cell? ⟨gb118, 2, none⟩ = some (.int .i64 a0_2) ∧ w'.cell? ⟨gb118, 3, none⟩ = some (.bool a0_3) ∧ w'.cell? ⟨gb118, 4, none⟩ = some (.string a0_4)) ∧ (Kd.R (Kd.int .u8) 5 w' w.heap.size (fun _ => True) s_ y123) ∧ (w'.heap[gb118]? = some (.cells #[.int .i64 a0_0, .int .i64 a0_1, .int .i64 a0_2, .bool a0_3, .string a0_4] 46 (0, 0))) ∧ (Below w.heap.size w w')) ?_ ?_
                              rotate_left
                              · intro hCont
                                refine two_ (i := 4) (j := 11) (Ni := some 28) (Nj := some 35) #[true, true, true, true, true, false, false, false, false, true, true, false, false, false, false] #[true, true, true, true, false, false, false, false, false, true, true, true, false, false, false] rfl rfl rfl rfl (two_of HT_.out (by kernel_rfl)) (by decide) (by decide) (fun K hK => ?_) (fun K hK => ?_)
                                · skip
                                  refine Kd.R_make_step (Kd.int .u8) _ 5 (by rfl) (N := 28) rfl 22 _ _ rfl 202 rfl rfl Try.underlying22 (.int .u8 0) 1 info5 rfl (by decide) (by omega) 0 (ok := fun _ => True) (okp := fun _ => True) rfl (fun _ hk => hk) trivial (by omega) (by omega) (Below.refl _ _) (Nat.le_refl _) ?_
                                  intro v124 w28 ho29 hb hg_ hnew_
                                  clear hg_ hnew_
                                  (first | rw [← Ny123.out] at ho29 | (simp only [Int.reduceToNat] at ho29; rw [← Ny123.out] at ho29))
                                  have n0_ := Aside0.mk (Kd.R_lower ho29 (below_size (by repeat (first | (with_reducible first | exact HB.out | apply below_alloc | apply pw_below_drewN | apply below_drew1 | refine below_set ?_ GE118.out) | exact HB.out))))
                                  have n1_ := Aside0.mk (blk_below (g := gb118) (o := .cells #[.int .i64 a0_0, .int .i64 a0_1, .int .i64 a0_2, .bool a0_3, .string a0_4] 46 (0, 0)) (by (with_reducible repeat (first | refine blk_drewN ?_ _ | refine blk_drew ?_ | refine blk_alloc ?_ _)); exact BK118.out) hb)
                                  have n2_ := Aside0.mk (below_step (by repeat (first | (with_reducible first | exact HB.out | apply below_alloc | apply pw_below_drewN | apply below_drew1 | refine below_set ?_ GE118.out) | exact HB.out)) hb)
                                  clear BK118
                                  clear HB
                                  have HO125 := n0_
                                  have BK118 := n1_
                                  have HB := n2_
                                  clear n0_ n1_ n2_
                                  clear hb ho29
                                  refine hK.out _ _ ⟨(blk_cell BK118.out 0).trans rfl, (blk_cell BK118.out 1).trans rfl, (blk_cell BK118.out 2).trans rfl, (blk_cell BK118.out 3).trans rfl, (blk_cell BK118.out 4).trans rfl⟩ (fun hHeld => ?_)
                                  clear hK K
                                  refine norm_ (a' := ?_) ?_ ?_
                                  rotate_left
                                  · show Act.put _ (some 28) _ = _
                                    simp only [Act.put, List.setIfInBounds_toArray, List.set_cons_zero, List.set_cons_succ, i64_w, i32_w]
                                    rfl
                                  refine two_ (i := 5) (j := 11) (Ni := some 29) (Nj := some 35) #[true, true, true, true, true, true, false, false, false, true, true, false, false, false, false] #[true, true, true, true, true, false, false, false, false, true, true, true, false, false, false] rfl rfl rfl rfl (two_of HT_.out (by kernel_rfl)) (by decide) (by decide) (fun K hK => ?_) (fun K hK => ?_)
                                  · skip
                                    have hcv30 := own_string (P := Try.prog) Try.underlying22 Try.underlying5 Try.underlying9 (Kd.own_of_R HO125.out)
                                    refine value_ (w1 := ?_) (v := ?_) (by rfl) rfl ?_ ?_
                                    rotate_left 2
                                    · go_simp
                                      constructor
                                      · rfl
                                      · rfl
                                    clear hcv30
                                    refine hK.out _ _ ⟨(blk_cell BK118.out 0).trans rfl, (blk_cell BK118.out 1).trans rfl, (blk_cell BK118.out 2).trans rfl, (blk_cell BK118.out 3).trans rfl, (blk_cell BK118.out 4).trans rfl⟩ (fun hHeld => ?_)
                                    clear hK K
                                    refine norm_ (a' := ?_) ?_ ?_
                                    rotate_left
                                    · show Act.put _ (some 29) _ = _
                                      simp only [Act.put, List.setIfInBounds_toArray, List.set_cons_zero, List.set_cons_succ, i64_w, i32_w]
                                      rfl
                                    refine pure_ (i := 6) (N := some 30) (v := ?_) (a' := ?_) #[true, true, true, true, true, true, true, false, false, true, true, false, false, false, false] rfl rfl (any_of HT_.out (by kernel_rfl)) (fun _ _ _ h => h) (Or.inl ⟨by rfl, ?_⟩) ?_ ?_
                                    rotate_left
                                    · intro w'
                                      go_simp
                                      with_reducible rfl
                                    rotate_left
                                    · simp only [Act.put, List.setIfInBounds_toArray, List.set_cons_zero, List.set_cons_succ, i64_w, i32_w]
                                      rfl
                                    refine pure_ (i := 7) (N := some 31) (v := ?_) (a' := ?_) #[true, true, true, true, true, true, true, true, false, true, true, false, false, false, false] rfl rfl (any_of HT_.out (by kernel_rfl)) (fun _ _ _ h => h) (Or.inl ⟨by rfl, ?_⟩) ?_ ?_
                                    rotate_left
                                    · intro w'
                                      go_simp
                                      with_reducible rfl
                                    rotate_left
                                    · simp only [Act.put, List.setIfInBounds_toArray, List.set_cons_zero, List.set_cons_succ, i64_w, i32_w]
                                      rfl
                                    refine pure_ (i := 8) (N := some 32) (v := ?_) (a' := ?_) #[true, true, true, true, true, true, true, true, true, true, true, false, false, false, false] rfl rfl (any_of HT_.out (by kernel_rfl)) (fun _ _ _ h => h) (Or.inl ⟨by rfl, ?_⟩) ?_ ?_
                                    rotate_left
                                    · intro w'
                                      go_simp
                                      with_reducible rfl
                                    rotate_left
                                    · simp only [Act.put, List.setIfInBounds_toArray, List.set_cons_zero, List.set_cons_succ, i64_w, i32_w]
                                      rfl
                                    refine one_ (i := 11) (N := some 35) #[true, true, true, true, true, true, true, true, true, true, true, true, false, false, false] rfl rfl (one_of HT_.out (by kernel_rfl)) (by decide) (fun K hK => ?_)
                                    refine goes_ Try.func60 (by kernel_rfl) rfl #[.int .i64 a0_2, .int .i64 1] (by rfl) rfl rfl (by (try simp only [List.map_toArray, List.map_cons, List.map_nil]); first | done | rfl | (simp only [List.length_drop, List.length_take]; rfl)) ?_
                                    with_reducible refine (spec_l01Number.calls k a0_2 1 t126 _ A18.out).mono ?_
                                    rintro e w31 ⟨rfl, hb⟩
                                    refine ⟨_, rfl, ?_⟩
                                    have n0_ := Aside0.mk (Kd.R_below (by (with_reducible repeat (first | apply Kd.R_alloc | apply Kd.R_drewN | apply Kd.R_drew)); exact HO125.out) hb)
                                    have n1_ := Aside0.mk (blk_below (g := gb118) (o := .cells #[.int .i64 a0_0, .int .i64 a0_1, .int .i64 a0_2, .bool a0_3, .string a0_4] 46 (0, 0)) (by (with_reducible repeat (first | refine blk_drewN ?_ _ | refine blk_drew ?_ | refine blk_alloc ?_ _)); exact BK118.out) hb)
                                    have n2_ := Aside0.mk (below_step (by repeat (first | (with_reducible first | exact HB.out | apply below_alloc | apply pw_below_drewN | apply below_drew1 | refine below_set ?_ GE118.out) | exact HB.out)) hb)
                                    clear HO125
                                    clear BK118
                                    clear HB
                                    have HO125 := n0_
                                    have BK118 := n1_
                                    have HB := n2_
                                    clear n0_ n1_ n2_
                                    (try clear hb)
                                    (try clear hb2)
                                    (try clear hk)
                                    (try clear hi)
                                    refine hK.out _ _ ⟨(blk_cell BK118.out 0).trans rfl, (blk_cell BK118.out 1).trans rfl, (blk_cell BK118.out 2).trans rfl, (blk_cell BK118.out 3).trans rfl, (blk_cell BK118.out 4).trans rfl⟩ (fun hHeld => ?_)
                                    clear hK K
                                    refine norm_ (a' := ?_) ?_ ?_
                                    rotate_left
                                    · show Act.put _ (some 35) _ = _
                                      simp only [Act.put, List.setIfInBounds_toArray, List.set_cons_zero, List.set_cons_succ, i64_w, i32_w]
                                      rfl
                                    exact norm_ (by simp only [putAll, Act.put, List.setIfInBounds_toArray, List.set_cons_zero, List.set_cons_succ]) (hCont (v124) _ ⟨hHeld, (by (with_reducible repeat (first | apply Kd.R_alloc | apply Kd.R_drewN | apply Kd.R_drew)); exact HO125.out), (by (with_reducible repeat (first | refine blk_drewN ?_ _ | refine blk_drew ?_ | refine blk_alloc ?_ _)); exact BK118.out), (by repeat (first | (with_reducible first | exact HB.out | apply below_alloc | apply pw_below_drewN | apply below_drew1 | refine below_set ?_ GE118.out) | exact HB.out))⟩)
                                  · skip
                                    refine goes_ Try.func60 (by kernel_rfl) rfl #[.int .i64 a0_2, .int .i64 1] (by rfl) rfl rfl (by (try simp only [List.map_toArray, List.map_cons, List.map_nil]); first | done | rfl | (simp only [List.length_drop, List.length_take]; rfl)) ?_
                                    with_reducible refine (spec_l01Number.calls k a0_2 1 t126 _ A18.out).mono ?_
                                    rintro e w30 ⟨rfl, hb⟩
                                    refine ⟨_, rfl, ?_⟩
                                    have n0_ := Aside0.mk (Kd.R_below (by (with_reducible repeat (first | apply Kd.R_alloc | apply Kd.R_drewN | apply Kd.R_drew)); exact HO125.out) hb)
                                    have n1_ := Aside0.mk (blk_below (g := gb118) (o := .cells #[.int .i64 a0_0, .int .i64 a0_1, .int .i64 a0_2, .bool a0_3, .string a0_4] 46 (0, 0)) (by (with_reducible repeat (first | refine blk_drewN ?_ _ | refine blk_drew ?_ | refine blk_alloc ?_ _)); exact BK118.out) hb)
                                    have n2_ := Aside0.mk (below_step (by repeat (first | (with_reducible first | exact HB.out | apply below_alloc | apply pw_below_drewN | apply below_drew1 | refine below_set ?_ GE118.out) | exact HB.out)) hb)
                                    clear HO125
                                    clear BK118
                                    clear HB
                                    have HO125 := n0_
                                    have BK118 := n1_
                                    have HB := n2_
                                    clear n0_ n1_ n2_
                                    (try clear hb)
                                    (try clear hb2)
                                    (try clear hk)
                                    (try clear hi)
                                    refine hK.out _ _ ⟨(blk_cell BK118.out 0).trans rfl, (blk_cell BK118.out 1).trans rfl, (blk_cell BK118.out 2).trans rfl, (blk_cell BK118.out 3).trans rfl, (blk_cell BK118.out 4).trans rfl⟩ (fun hHeld => ?_)
                                    clear hK K
                                    refine norm_ (a' := ?_) ?_ ?_
                                    rotate_left
                                    · show Act.put _ (some 35) _ = _
                                      simp only [Act.put, List.setIfInBounds_toArray, List.set_cons_zero, List.set_cons_succ, i64_w, i32_w]
                                      rfl
                                    refine one_ (i := 5) (N := some 29) #[true, true, true, true, true, true, false, false, false, true, true, true, false, false, false] rfl rfl (one_of HT_.out (by kernel_rfl)) (by decide) (fun K hK => ?_)
                                    have hcv31 := own_string (P := Try.prog) Try.underlying22 Try.underlying5 Try.underlying9 (Kd.own_of_R HO125.out)
                                    refine value_ (w1 := ?_) (v := ?_) (by rfl) rfl ?_ ?_
                                    rotate_left 2
                                    · go_simp
                                      constructor
                                      · rfl
                                      · rfl
                                    clear hcv31
                                    refine hK.out _ _ ⟨(blk_cell BK118.out 0).trans rfl, (blk_cell BK118.out 1).trans rfl, (blk_cell BK118.out 2).trans rfl, (blk_cell BK118.out 3).trans rfl, (blk_cell BK118.out 4).trans rfl⟩ (fun hHeld => ?_)
                                    clear hK K
                                    refine norm_ (a' := ?_) ?_ ?_
                                    rotate_left
                                    · show Act.put _ (some 29) _ = _
                                      simp only [Act.put, List.setIfInBounds_toArray, List.set_cons_zero, List.set_cons_succ, i64_w, i32_w]
                                      rfl
                                    refine pure_ (i := 6) (N := some 30) (v := ?_) (a' := ?_) #[true, true, true, true, true, true, true, false, false, true, true, true, false, false, false] rfl rfl (any_of HT_.out (by kernel_rfl)) (fun _ _ _ h => h) (Or.inl ⟨by rfl, ?_⟩) ?_ ?_
                                    rotate_left
                                    · intro w'
                                      go_simp
                                      with_reducible rfl
                                    rotate_left
                                    · simp only [Act.put, List.setIfInBounds_toArray, List.set_cons_zero, List.set_cons_succ, i64_w, i32_w]
                                      rfl
                                    refine pure_ (i := 7) (N := some 31) (v := ?_) (a' := ?_) #[true, true, true, true, true, true, true, true, false, true, true, true, false, false, false] rfl rfl (any_of HT_.out (by kernel_rfl)) (fun _ _ _ h => h) (Or.inl ⟨by rfl, ?_⟩) ?_ ?_
                                    rotate_left
                                    · intro w'
                                      go_simp
                                      with_reducible rfl
                                    rotate_left
                                    · simp only [Act.put, List.setIfInBounds_toArray, List.set_cons_zero, List.set_cons_succ, i64_w, i32_w]
                                      rfl
                                    refine pure_ (i := 8) (N := some 32) (v := ?_) (a' := ?_) #[true, true, true, true, true, true, true, true, true, true, true, true, false, false, false] rfl rfl (any_of HT_.out (by kernel_rfl)) (fun _ _ _ h => h) (Or.inl ⟨by rfl, ?_⟩) ?_ ?_
                                    rotate_left
                                    · intro w'
                                      go_simp
                                      with_reducible rfl
                                    rotate_left
                                    · simp only [Act.put, List.setIfInBounds_toArray, List.set_cons_zero, List.set_cons_succ, i64_w, i32_w]
                                      rfl
                                    exact norm_ (by simp only [putAll, Act.put, List.setIfInBounds_toArray, List.set_cons_zero, List.set_cons_succ]) (hCont (v124) _ ⟨hHeld, (by (with_reducible repeat (first | apply Kd.R_alloc | apply Kd.R_drewN | apply Kd.R_drew)); exact HO125.out), (by (with_reducible repeat (first | refine blk_drewN ?_ _ | refine blk_drew ?_ | refine blk_alloc ?_ _)); exact BK118.out), (by repeat (first | (with_reducible first | exact HB.out | apply below_alloc | apply pw_below_drewN | apply below_drew1 | refine below_set ?_ GE118.out) | exact HB.out))⟩)
                                · skip
                                  refine goes_ Try.func60 (by kernel_rfl) rfl #[.int .i64 a0_2, .int .i64 1] (by rfl) rfl rfl (by (try simp only [List.map_toArray, List.map_cons, List.map_nil]); first | done | rfl | (simp only [List.length_drop, List.length_take]; rfl)) ?_
                                  with_reducible refine (spec_l01Number.calls k a0_2 1 t126 _ A18.out).mono ?_
                                  rintro e w28 ⟨rfl, hb⟩
                                  refine ⟨_, rfl, ?_⟩
                                  have n0_ := Aside0.mk (blk_below (g := gb118) (o := .cells #[.int .i64 a0_0, .int .i64 a0_1, .int .i64 a0_2, .bool a0_3, .string a0_4] 46 (0, 0)) (by (with_reducible repeat (first | refine blk_drewN ?_ _ | refine blk_drew ?_ | refine blk_alloc ?_ _)); exact BK118.out) hb)
                                  have n1_ := Aside0.mk (below_step (by repeat (first | (with_reducible first | exact HB.out | apply below_alloc | apply pw_below_drewN | apply below_drew1 | refine below_set ?_ GE118.out) | exact HB.out)) hb)
                                  clear BK118
                                  clear HB
                                  have BK118 := n0_
                                  have HB := n1_
                                  clear n0_ n1_
                                  (try clear hb)
                                  (try clear hb2)
                                  (try clear hk)
                                  (try clear hi)
                                  refine hK.out _ _ ⟨(blk_cell BK118.out 0).trans rfl, (blk_cell BK118.out 1).trans rfl, (blk_cell BK118.out 2).trans rfl, (blk_cell BK118.out 3).trans rfl, (blk_cell BK118.out 4).trans rfl⟩ (fun hHeld => ?_)
                                  clear hK K
                                  refine norm_ (a' := ?_) ?_ ?_
                                  rotate_left
                                  · show Act.put _ (some 35) _ = _
                                    simp only [Act.put, List.setIfInBounds_toArray, List.set_cons_zero, List.set_cons_succ, i64_w, i32_w]
                                    rfl
                                  refine one_ (i := 4) (N := some 28) #[true, true, true, true, true, false, false, false, false, true, true, true, false, false, false] rfl rfl (one_of HT_.out (by kernel_rfl)) (by decide) (fun K hK => ?_)
                                  refine Kd.R_make_step (Kd.int .u8) _ 5 (by rfl) (N := 28) rfl 22 _ _ rfl 202 rfl rfl Try.underlying22 (.int .u8 0) 1 info5 rfl (by decide) (by omega) 0 (ok := fun _ => True) (okp := fun _ => True) rfl (fun _ hk => hk) trivial (by omega) (by omega) (Below.refl _ _) (Nat.le_refl _) ?_
                                  intro v124 w29 ho30 hb hg_ hnew_
                                  clear hg_ hnew_
                                  (first | rw [← Ny123.out] at ho30 | (simp only [Int.reduceToNat] at ho30; rw [← Ny123.out] at ho30))
                                  have n0_ := Aside0.mk (Kd.R_lower ho30 (below_size (by repeat (first | (with_reducible first | exact HB.out | apply below_alloc | apply pw_below_drewN | apply below_drew1 | refine below_set ?_ GE118.out) | exact HB.out))))
                                  have n1_ := Aside0.mk (blk_below (g := gb118) (o := .cells #[.int .i64 a0_0, .int .i64 a0_1, .int .i64 a0_2, .bool a0_3, .string a0_4] 46 (0, 0)) (by (with_reducible repeat (first | refine blk_drewN ?_ _ | refine blk_drew ?_ | refine blk_alloc ?_ _)); exact BK118.out) hb)
                                  have n2_ := Aside0.mk (below_step (by repeat (first | (with_reducible first | exact HB.out | apply below_alloc | apply pw_below_drewN | apply below_drew1 | refine below_set ?_ GE118.out) | exact HB.out)) hb)
                                  clear BK118
                                  clear HB
                                  have HO125 := n0_
                                  have BK118 := n1_
                                  have HB := n2_
                                  clear n0_ n1_ n2_
                                  clear hb ho30
                                  refine hK.out _ _ ⟨(blk_cell BK118.out 0).trans rfl, (blk_cell BK118.out 1).trans rfl, (blk_cell BK118.out 2).trans rfl, (blk_cell BK118.out 3).trans rfl, (blk_cell BK118.out 4).trans rfl⟩ (fun hHeld => ?_)
                                  clear hK K
                                  refine norm_ (a' := ?_) ?_ ?_
                                  rotate_left
                                  · show Act.put _ (some 28) _ = _
                                    simp only [Act.put, List.setIfInBounds_toArray, List.set_cons_zero, List.set_cons_succ, i64_w, i32_w]
                                    rfl
                                  refine one_ (i := 5) (N := some 29) #[true, true, true, true, true, true, false, false, false, true, true, true, false, false, false] rfl rfl (one_of HT_.out (by kernel_rfl)) (by decide) (fun K hK => ?_)
                                  have hcv31 := own_string (P := Try.prog) Try.underlying22 Try.underlying5 Try.underlying9 (Kd.own_of_R HO125.out)
                                  refine value_ (w1 := ?_) (v := ?_) (by rfl) rfl ?_ ?_
                                  rotate_left 2
                                  · go_simp
                                    constructor
                                    · rfl
                                    · rfl
                                  clear hcv31
                                  refine hK.out _ _ ⟨(blk_cell BK118.out 0).trans rfl, (blk_cell BK118.out 1).trans rfl, (blk_cell BK118.out 2).trans rfl, (blk_cell BK118.out 3).trans rfl, (blk_cell BK118.out 4).trans rfl⟩ (fun hHeld => ?_)
                                  clear hK K
                                  refine norm_ (a' := ?_) ?_ ?_
                                  rotate_left
                                  · show Act.put _ (some 29) _ = _
                                    simp only [Act.put, List.setIfInBounds_toArray, List.set_cons_zero, List.set_cons_succ, i64_w, i32_w]
                                    rfl
                                  refine pure_ (i := 6) (N := some 30) (v := ?_) (a' := ?_) #[true, true, true, true, true, true, true, false, false, true, true, true, false, false, false] rfl rfl (any_of HT_.out (by kernel_rfl)) (fun _ _ _ h => h) (Or.inl ⟨by rfl, ?_⟩) ?_ ?_
                                  rotate_left
                                  · intro w'
                                    go_simp
                                    with_reducible rfl
                                  rotate_left
                                  · simp only [Act.put, List.setIfInBounds_toArray, List.set_cons_zero, List.set_cons_succ, i64_w, i32_w]
                                    rfl
                                  refine pure_ (i := 7) (N := some 31) (v := ?_) (a' := ?_) #[true, true, true, true, true, true, true, true, false, true, true, true, false, false, false] rfl rfl (any_of HT_.out (by kernel_rfl)) (fun _ _ _ h => h) (Or.inl ⟨by rfl, ?_⟩) ?_ ?_
                                  rotate_left
                                  · intro w'
                                    go_simp
                                    with_reducible rfl
                                  rotate_left
                                  · simp only [Act.put, List.setIfInBounds_toArray, List.set_cons_zero, List.set_cons_succ, i64_w, i32_w]
                                    rfl
                                  refine pure_ (i := 8) (N := some 32) (v := ?_) (a' := ?_) #[true, true, true, true, true, true, true, true, true, true, true, true, false, false, false] rfl rfl (any_of HT_.out (by kernel_rfl)) (fun _ _ _ h => h) (Or.inl ⟨by rfl, ?_⟩) ?_ ?_
                                  rotate_left
                                  · intro w'
                                    go_simp
                                    with_reducible rfl
                                  rotate_left
                                  · simp only [Act.put, List.setIfInBounds_toArray, List.set_cons_zero, List.set_cons_succ, i64_w, i32_w]
                                    rfl
                                  exact norm_ (by simp only [putAll, Act.put, List.setIfInBounds_toArray, List.set_cons_zero, List.set_cons_succ]) (hCont (v124) _ ⟨hHeld, (by (with_reducible repeat (first | apply Kd.R_alloc | apply Kd.R_drewN | apply Kd.R_drew)); exact HO125.out), (by (with_reducible repeat (first | refine blk_drewN ?_ _ | refine blk_drew ?_ | refine blk_alloc ?_ _)); exact BK118.out), (by repeat (first | (with_reducible first | exact HB.out | apply below_alloc | apply pw_below_drewN | apply below_drew1 | refine below_set ?_ GE118.out) | exact HB.out))⟩)
                              rintro v124 w32 ⟨hS_, h0_, h1_, h2_⟩
                              have n0_ : Aside0 (Kd.R (Kd.int .u8) 5 w32 w.heap.size (fun _ => True) v124 y123) := ⟨h0_⟩
                              have n1_ : Aside0 (w32.heap[gb118]? = some (.cells #[.int .i64 a0_0, .int .i64 a0_1, .int .i64 a0_2, .bool a0_3, .string a0_4] 46 (0, 0))) := ⟨h1_⟩
                              have n2_ : Aside0 (Below w.heap.size w w32) := ⟨h2_⟩
                              clear BK118
                              clear HB
                              clear h0_ h1_ h2_
                              have HO125 := n0_
                              have BK118 := n1_
                              have HB := n2_
                              clear n0_ n1_ n2_
                              have hHeld : w32.cell? ⟨gb118, 0, none⟩ = some (.int .i64 a0_0) ∧ w32.cell? ⟨gb118, 1, none⟩ = some (.int .i64 a0_1) ∧ w32.cell? ⟨gb118, 2, none⟩ = some (.int .i64 a0_2) ∧ w32.cell? ⟨gb118, 3, none⟩ = some (.bool a0_3) ∧ w32.cell? ⟨gb118, 4, none⟩ = some (.string a0_4) := hS_
                              refine norm_ (a' := ?_) ?_ ?_
                              rotate_left
                              · simp only [putAll, Act.put, List.setIfInBounds_toArray, List.set_cons_zero, List.set_cons_succ]
                                rfl
                              refine pure_ (i := 12) (N := some 36) (v := ?_) (a' := ?_) #[true, true, true, true, true, true, true, true, true, true, true, true, true, false, false] rfl rfl (any_of HT_.out (by kernel_rfl)) (fun _ _ _ h => h) (Or.inl ⟨by rfl, ?_⟩) ?_ ?_
                              rotate_left
                              · intro w'
                                go_simp
                                with_reducible rfl
                              rotate_left
                              · simp only [Act.put, List.setIfInBounds_toArray, List.set_cons_zero, List.set_cons_succ, i64_w, i32_w]
                                rfl
                              refine pure_ (i := 13) (N := some 37) (v := ?_) (a' := ?_) #[true, true, true, true, true, true, true, true, true, true, true, true, true, true, false] rfl rfl (any_of HT_.out (by kernel_rfl)) (fun _ _ _ h => h) (Or.inl ⟨by rfl, ?_⟩) ?_ ?_
                              rotate_left
                              · intro w'
                                go_simp
                                with_reducible rfl
                              rotate_left
                              · simp only [Act.put, List.setIfInBounds_toArray, List.set_cons_zero, List.set_cons_succ, i64_w, i32_w]
                                rfl
                              refine pure_ (i := 14) (N := some 2) (v := ?_) (a' := ?_) #[true, true, true, true, true, true, true, true, true, true, true, true, true, true, true] rfl rfl (any_of HT_.out (by kernel_rfl)) (fun _ _ _ h => h) (Or.inl ⟨by rfl, ?_⟩) ?_ ?_
                              rotate_left
                              · intro w'
                                go_simp
                                with_reducible rfl
                              rotate_left
                              · simp only [Act.put, List.setIfInBounds_toArray, List.set_cons_zero, List.set_cons_succ, i64_w, i32_w]
                                rfl
                              refine done_ (done_of HT_.out (by kernel_rfl)) ?_
                              try go_wp2
                              go_ret
                              exact ⟨by first | rfl | (simp [errW_none, errW_some] <;> rfl) | (simp [*, errW_none, errW_some] <;> rfl), by repeat (first | (with_reducible first | exact HB.out | apply below_alloc | apply pw_below_drewN | apply below_drew1 | refine below_set ?_ GE118.out) | exact HB.out)⟩
                            · rw [if_neg c20] at H
                              exact absurd H (by simp)
                          · rw [if_neg c19] at H
                            exact absurd H (by simp)
                        · rw [if_neg c17] at H
                          exact absurd H (by simp)
                      · rw [if_neg c16] at H
                        exact absurd H (by simp)
                    · rw [if_neg c15] at H
                      exact absurd H (by simp)
                  · rw [if_neg c14] at H
                    exact absurd H (by simp)
                · rw [if_neg c13] at H
                  exact absurd H (by simp)
              · rw [if_neg c12] at H
                exact absurd H (by simp)
            · rw [if_neg c11] at H
              exact absurd H (by simp)
          · rw [if_neg c10] at H
            exact absurd H (by simp)
        · rw [if_neg c8] at H
          exact absurd H (by simp)
      · rw [if_neg c7] at H
        exact absurd H (by simp)
    · rw [if_neg c6] at H
      exact absurd H (by simp)
  · rw [if_neg c4] at H
    exact absurd H (by simp)

/-! ### spec_DhcpBytes: function 29 -/
def spec_DhcpBytes.f (k : Nat) (a0_0 : Int) (a0_1 : Int) (a0_2 : Int) (a0_3 : Bool) (a0_4 : ByteArray) : Option (List Int × Int) := (spec_l03Dhcp.f a0_0 a0_1 a0_2 a0_3 a0_4).bind fun t128 => (if t128 = true then ((spec_l03DhcpBytes.f k a0_0 a0_1 a0_2 a0_3 a0_4).bind fun t129 => (if t129.size ≤ 140737488355328 then (some ((bytesOf t129), 0)) else (none))) else (some ((([] : List Int)), 1)))
theorem spec_DhcpBytes.mono : ∀ a0 a1 a2 a3 a4 k, LeO (spec_DhcpBytes.f k a0 a1 a2 a3 a4) (spec_DhcpBytes.f (k + 1) a0 a1 a2 a3 a4) := by
  intro a0 a1 a2 a3 a4 k
  unfold spec_DhcpBytes.f
  repeat' first
      | (with_reducible exact spec_l03DhcpBytes.mono _ _ _ _ _ _)
      | (with_reducible exact LeO.refl _)
      | (with_reducible exact LeO.none _)
      | (with_reducible refine LeO.ite ?_ ?_)
      | (with_reducible refine LeO.bind ?_ (fun _ => ?_))
      | exact spec_l03DhcpBytes.mono _ _ _ _ _ _
      | exact LeO.none _
      | refine LeO.ite ?_ ?_
      | refine LeO.bind ?_ (fun _ => ?_)
set_option maxHeartbeats 8000000 in
set_option maxRecDepth 100000 in
theorem spec_DhcpBytes.calls (k : Nat) (a0_0 : Int) (a0_1 : Int) (a0_2 : Int) (a0_3 : Bool) (a0_4 : ByteArray) (r1 : List Int) (r2 : Int) (w : World) (h : spec_DhcpBytes.f k a0_0 a0_1 a0_2 a0_3 a0_4 = some (r1, r2)) :
    Calls Try.prog 29 #[.agg #[.int .i64 a0_0, .int .i64 a0_1, .int .i64 a0_2, .bool a0_3, .string a0_4]] w fun e w' => ∃ v0_ : Value, e = .returned (.tuple #[v0_, .int .i64 r2]) ∧ Kd.V (Kd.int .u8) 5 w' w.heap.size (fun k_ => (w.heap.size ≤ k_)) v0_ r1 ∧ Below w.heap.size w w' := by
  have hu46 := Try.underlying46
  have HB := Aside0.mk (Below.refl w.heap.size w)
  have H : ((spec_l03Dhcp.f a0_0 a0_1 a0_2 a0_3 a0_4).bind fun t128 => (if t128 = true then ((spec_l03DhcpBytes.f k a0_0 a0_1 a0_2 a0_3 a0_4).bind fun t129 => (if t129.size ≤ 140737488355328 then (some ((bytesOf t129), 0)) else (none))) else (some ((([] : List Int)), 1)))) = some (r1, r2) := h
  clear h
  replace H := Option.bind_eq_some_iff.mp H
  obtain ⟨t128, A20, H⟩ := H
  replace H : (if t128 = true then ((spec_l03DhcpBytes.f k a0_0 a0_1 a0_2 a0_3 a0_4).bind fun t129 => (if t129.size ≤ 140737488355328 then (some ((bytesOf t129), 0)) else (none))) else (some ((([] : List Int)), 1))) = some (r1, r2) := H
  have A2 := Aside0.mk A20
  clear A20
  by_cases c3 : t128 = true
  · subst c3
    have H1 : ((spec_l03DhcpBytes.f k a0_0 a0_1 a0_2 a0_3 a0_4).bind fun t129 => (if t129.size ≤ 140737488355328 then (some ((bytesOf t129), 0)) else (none))) = some (r1, r2) := by rw [if_pos rfl] at H; exact H
    clear H
    have H := H1
    clear H1
    replace H := Option.bind_eq_some_iff.mp H
    obtain ⟨t129, A40, H⟩ := H
    replace H : (if t129.size ≤ 140737488355328 then (some ((bytesOf t129), 0)) else (none)) = some (r1, r2) := H
    have A4 := Aside0.mk A40
    clear A40
    by_cases c5 : t129.size ≤ 140737488355328
    · rw [if_pos c5] at H
      have c5b0 := eq_true c5
      have c5b1 : decide (t129.size ≤ 140737488355328) = true := decide_eq_true c5
      clear c5
      obtain ⟨y130, hy130⟩ : ∃ y_ : List Int, y_ = (bytesOf t129) := ⟨_, rfl⟩
      replace H : (some (y130, 0)) = some (r1, r2) := by first | (rw [hy130]; with_reducible exact H) | (have H2_ := (Option.bind_some _ _).symm.trans H; rw [hy130]; with_reducible exact H2_) | (have H2_ := (Option.bind_some _ _).symm.trans H; with_reducible exact H2_) | with_reducible exact H | (rw [hy130]; exact H) | exact H
      have Ny130 := Aside0.mk hy130
      clear hy130
      simp only [Option.some.injEq, Prod.mk.injEq] at H
      obtain ⟨rfl, rfl⟩ := H
      go_enter Try.func29, Try.ntmps29
      go_wp2_with (first | ((with_reducible refine gate_dst (N := 1) rfl ?_); refine box_event ?hg (N := 1) ?hd (cs := #[.int .i64 a0_0, .int .i64 a0_1, .int .i64 a0_2, .bool a0_3, .string a0_4]) (t := 46) ?hr ?_; (case hd => rfl); (case hg => rfl); (case hr => first | (go_simp; done) | (go_simp; rfl)); intro gb127 hg w6 hbox hb; have n0_ := Aside0.mk (below_step (by repeat (first | (with_reducible first | exact HB.out | apply below_alloc | apply pw_below_drewN | apply below_drew1) | exact HB.out)) hb); have n1_ := Aside0.mk (hbox); have n2_ := Aside0.mk ((by rw [hg]; exact (below_size (by repeat (first | (with_reducible first | exact HB.out | apply below_alloc | apply pw_below_drewN | apply below_drew1) | exact HB.out))) : w.heap.size ≤ gb127)); have n3_ := Aside0.mk ((by rw [hg]; exact (below_size (by repeat (first | (with_reducible first | exact HB.out | apply below_alloc | apply pw_below_drewN | apply below_drew1) | exact HB.out))) : w.heap.size ≤ gb127)); clear HB; have HB := n0_; have BK127 := n1_; have GW127 := n2_; have GE127 := n3_; clear n0_ n1_ n2_ n3_; clear hb hbox hg; have hcz7_0 : w6.cell? ⟨gb127, 0, none⟩ = some (.int .i64 a0_0) := (blk_cell BK127.out 0).trans rfl; have hcz7_1 : w6.cell? ⟨gb127, 1, none⟩ = some (.int .i64 a0_1) := (blk_cell BK127.out 1).trans rfl; have hcz7_2 : w6.cell? ⟨gb127, 2, none⟩ = some (.int .i64 a0_2) := (blk_cell BK127.out 2).trans rfl; have hcz7_3 : w6.cell? ⟨gb127, 3, none⟩ = some (.bool a0_3) := (blk_cell BK127.out 3).trans rfl; have hcz7_4 : w6.cell? ⟨gb127, 4, none⟩ = some (.string a0_4) := (blk_cell BK127.out 4).trans rfl; have hfz7_0 := blk_frozen BK127.out 0; have hfz7_1 := blk_frozen BK127.out 1; have hfz7_2 := blk_frozen BK127.out 2; have hfz7_3 := blk_frozen BK127.out 3; have hfz7_4 := blk_frozen BK127.out 4) | ((with_reducible refine gate_callee (f := 71) rfl ?_); refine goesL_ (some 5) rfl rfl Try.func71 (by kernel_rfl) rfl #[.agg #[.int .i64 a0_0, .int .i64 a0_1, .int .i64 a0_2, .bool a0_3, .string a0_4]] rfl (by (try simp only [List.map_toArray, List.map_cons, List.map_nil]); first | done | rfl | (simp only [List.length_drop, List.length_take]; rfl)) ?_; (with_reducible refine (spec_l03Dhcp.calls a0_0 a0_1 a0_2 a0_3 a0_4 true _ A2.out).mono ?_); rintro e w8 ⟨rfl, hb⟩; refine ⟨_, rfl, ?_⟩; have n0_ := Aside0.mk (blk_below (g := gb127) (o := .cells #[.int .i64 a0_0, .int .i64 a0_1, .int .i64 a0_2, .bool a0_3, .string a0_4] 46 (0, 0)) (by (with_reducible repeat (first | refine blk_drewN ?_ _ | refine blk_drew ?_ | refine blk_alloc ?_ _)); exact BK127.out) hb); have n1_ := Aside0.mk (below_step (by repeat (first | (with_reducible first | exact HB.out | apply below_alloc | apply pw_below_drewN | apply below_drew1 | refine below_set ?_ GE127.out) | exact HB.out)) hb); clear BK127; clear HB; have BK127 := n0_; have HB := n1_; clear n0_ n1_; (try clear hb); (try clear hb2); (try clear hk); (try clear hi); have hcz9_0 : w8.cell? ⟨gb127, 0, none⟩ = some (.int .i64 a0_0) := (blk_cell BK127.out 0).trans rfl; have hcz9_1 : w8.cell? ⟨gb127, 1, none⟩ = some (.int .i64 a0_1) := (blk_cell BK127.out 1).trans rfl; have hcz9_2 : w8.cell? ⟨gb127, 2, none⟩ = some (.int .i64 a0_2) := (blk_cell BK127.out 2).trans rfl; have hcz9_3 : w8.cell? ⟨gb127, 3, none⟩ = some (.bool a0_3) := (blk_cell BK127.out 3).trans rfl; have hcz9_4 : w8.cell? ⟨gb127, 4, none⟩ = some (.string a0_4) := (blk_cell BK127.out 4).trans rfl; have hfz9_0 := blk_frozen BK127.out 0; have hfz9_1 := blk_frozen BK127.out 1; have hfz9_2 := blk_frozen BK127.out 2; have hfz9_3 := blk_frozen BK127.out 3; have hfz9_4 := blk_frozen BK127.out 4) | ((with_reducible refine gate_callee (f := 72) rfl ?_); refine goesL_ (some 9) rfl rfl Try.func72 (by kernel_rfl) rfl #[.agg #[.int .i64 a0_0, .int .i64 a0_1, .int .i64 a0_2, .bool a0_3, .string a0_4]] rfl (by (try simp only [List.map_toArray, List.map_cons, List.map_nil]); first | done | rfl | (simp only [List.length_drop, List.length_take]; rfl)) ?_; (with_reducible refine (spec_l03DhcpBytes.calls k a0_0 a0_1 a0_2 a0_3 a0_4 t129 _ A4.out).mono ?_); rintro e w10 ⟨rfl, hb⟩; refine ⟨_, rfl, ?_⟩; have n0_ := Aside0.mk (blk_below (g := gb127) (o := .cells #[.int .i64 a0_0, .int .i64 a0_1, .int .i64 a0_2, .bool a0_3, .string a0_4] 46 (0, 0)) (by (with_reducible repeat (first | refine blk_drewN ?_ _ | refine blk_drew ?_ | refine blk_alloc ?_ _)); exact BK127.out) hb); have n1_ := Aside0.mk (below_step (by repeat (first | (with_reducible first | exact HB.out | apply below_alloc | apply pw_below_drewN | apply below_drew1 | refine below_set ?_ GE127.out) | exact HB.out)) hb); clear BK127; clear HB; have BK127 := n0_; have HB := n1_; clear n0_ n1_; (try clear hb); (try clear hb2); (try clear hk); (try clear hi)) | ((with_reducible refine gate_dst (N := 10) rfl ?_); refine Kd.V_make _ 5 rfl (N' := 10) rfl 9 22 _ rfl t129 (by first | rfl | exact eval_tmp (by assumption)) Try.underlying9 Try.underlying22 Try.underlying5 (ok := fun k_ => w10.heap.size ≤ k_) (Nat.le_refl _) (of_decide_eq_true (by first | (with_reducible assumption) | assumption) : t129.size ≤ 140737488355328) (Below.refl _ _) (Nat.le_refl _) ?_; intro v131 w11 ho12 hb hg_ hnew_; clear hg_ hnew_; (first | rw [← Ny130.out] at ho12 | (simp only [Int.reduceToNat] at ho12; rw [← Ny130.out] at ho12)); have n0_ := Aside0.mk (Kd.V_lower (Kd.V_mono (ok' := fun k_ => (w.heap.size ≤ k_) ∧ k_ ≠ gb127) ho12 (fun k_ hk_ => ⟨(Nat.le_trans (below_size (by repeat (first | (with_reducible first | exact HB.out | apply below_alloc | apply pw_below_drewN | apply below_drew1 | refine below_set ?_ GE127.out) | exact HB.out))) hk_), (Kd.freshB (g := gb127) (o := .cells #[.int .i64 a0_0, .int .i64 a0_1, .int .i64 a0_2, .bool a0_3, .string a0_4] 46 (0, 0)) (by (with_reducible repeat (first | refine blk_drewN ?_ _ | refine blk_drew ?_ | refine blk_alloc ?_ _)); exact BK127.out) k_ hk_)⟩)) (below_size (by repeat (first | (with_reducible first | exact HB.out | apply below_alloc | apply pw_below_drewN | apply below_drew1 | refine below_set ?_ GE127.out) | exact HB.out)))); have n1_ := Aside0.mk (blk_below (g := gb127) (o := .cells #[.int .i64 a0_0, .int .i64 a0_1, .int .i64 a0_2, .bool a0_3, .string a0_4] 46 (0, 0)) (by (with_reducible repeat (first | refine blk_drewN ?_ _ | refine blk_drew ?_ | refine blk_alloc ?_ _)); exact BK127.out) hb); have n2_ := Aside0.mk (below_step (by repeat (first | (with_reducible first | exact HB.out | apply below_alloc | apply pw_below_drewN | apply below_drew1 | refine below_set ?_ GE127.out) | exact HB.out)) hb); clear BK127; clear HB; have HO132 := n0_; have BK127 := n1_; have HB := n2_; clear n0_ n1_ n2_; clear hb ho12))
      go_ret2
      exact ⟨_, by first | rfl | (simp [errW_none, errW_some] <;> rfl) | (simp [*, errW_none, errW_some] <;> rfl), by (with_reducible repeat (first | apply Kd.V_alloc | apply Kd.V_drewN | apply Kd.V_drew)); exact Kd.V_mono HO132.out (fun _ hk => hk.1), by repeat (first | (with_reducible first | exact HB.out | apply below_alloc | apply pw_below_drewN | apply below_drew1 | refine below_set ?_ GE127.out) | exact HB.out)⟩
    · rw [if_neg c5] at H
      exact absurd H (by simp)
  · replace c3 := Bool.eq_false_iff.mpr c3
    subst c3
    have H1 : (some ((([] : List Int)), 1)) = some (r1, r2) := by rw [if_neg (show ¬ (false = true) by decide)] at H; exact H
    clear H
    have H := H1
    clear H1
    obtain ⟨y133, hy133⟩ : ∃ y_ : List Int, y_ = (([] : List Int)) := ⟨_, rfl⟩
    replace H : (some (y133, 1)) = some (r1, r2) := by first | (rw [hy133]; with_reducible exact H) | (have H2_ := (Option.bind_some _ _).symm.trans H; rw [hy133]; with_reducible exact H2_) | (have H2_ := (Option.bind_some _ _).symm.trans H; with_reducible exact H2_) | with_reducible exact H | (rw [hy133]; exact H) | exact H
    have Ny133 := Aside0.mk hy133
    clear hy133
    simp only [Option.some.injEq, Prod.mk.injEq] at H
    obtain ⟨rfl, rfl⟩ := H
    go_enter Try.func29, Try.ntmps29
    go_wp2_with (first | ((with_reducible refine gate_dst (N := 1) rfl ?_); refine box_event ?hg (N := 1) ?hd (cs := #[.int .i64 a0_0, .int .i64 a0_1, .int .i64 a0_2, .bool a0_3, .string a0_4]) (t := 46) ?hr ?_; (case hd => rfl); (case hg => rfl); (case hr => first | (go_simp; done) | (go_simp; rfl)); intro gb127 hg w13 hbox hb; have n0_ := Aside0.mk (below_step (by repeat (first | (with_reducible first | exact HB.out | apply below_alloc | apply pw_below_drewN | apply below_drew1) | exact HB.out)) hb); have n1_ := Aside0.mk (hbox); have n2_ := Aside0.mk ((by rw [hg]; exact (below_size (by repeat (first | (with_reducible first | exact HB.out | apply below_alloc | apply pw_below_drewN | apply below_drew1) | exact HB.out))) : w.heap.size ≤ gb127)); have n3_ := Aside0.mk ((by rw [hg]; exact (below_size (by repeat (first | (with_reducible first | exact HB.out | apply below_alloc | apply pw_below_drewN | apply below_drew1) | exact HB.out))) : w.heap.size ≤ gb127)); clear HB; have HB := n0_; have BK127 := n1_; have GW127 := n2_; have GE127 := n3_; clear n0_ n1_ n2_ n3_; clear hb hbox hg; have hcz14_0 : w13.cell? ⟨gb127, 0, none⟩ = some (.int .i64 a0_0) := (blk_cell BK127.out 0).trans rfl; have hcz14_1 : w13.cell? ⟨gb127, 1, none⟩ = some (.int .i64 a0_1) := (blk_cell BK127.out 1).trans rfl; have hcz14_2 : w13.cell? ⟨gb127, 2, none⟩ = some (.int .i64 a0_2) := (blk_cell BK127.out 2).trans rfl; have hcz14_3 : w13.cell? ⟨gb127, 3, none⟩ = some (.bool a0_3) := (blk_cell BK127.out 3).trans rfl; have hcz14_4 : w13.cell? ⟨gb127, 4, none⟩ = some (.string a0_4) := (blk_cell BK127.out 4).trans rfl; have hfz14_0 := blk_frozen BK127.out 0; have hfz14_1 := blk_frozen BK127.out 1; have hfz14_2 := blk_frozen BK127.out 2; have hfz14_3 := blk_frozen BK127.out 3; have hfz14_4 := blk_frozen BK127.out 4) | ((with_reducible refine gate_callee (f := 71) rfl ?_); refine goesL_ (some 5) rfl rfl Try.func71 (by kernel_rfl) rfl #[.agg #[.int .i64 a0_0, .int .i64 a0_1, .int .i64 a0_2, .bool a0_3, .string a0_4]] rfl (by (try simp only [List.map_toArray, List.map_cons, List.map_nil]); first | done | rfl | (simp only [List.length_drop, List.length_take]; rfl)) ?_; (with_reducible refine (spec_l03Dhcp.calls a0_0 a0_1 a0_2 a0_3 a0_4 false _ A2.out).mono ?_); rintro e w15 ⟨rfl, hb⟩; refine ⟨_, rfl, ?_⟩; have n0_ := Aside0.mk (blk_below (g := gb127) (o := .cells #[.int .i64 a0_0, .int .i64 a0_1, .int .i64 a0_2, .bool a0_3, .string a0_4] 46 (0, 0)) (by (with_reducible repeat (first | refine blk_drewN ?_ _ | refine blk_drew ?_ | refine blk_alloc ?_ _)); exact BK127.out) hb); have n1_ := Aside0.mk (below_step (by repeat (first | (with_reducible first | exact HB.out | apply below_alloc | apply pw_below_drewN | apply below_drew1 | refine below_set ?_ GE127.out) | exact HB.out)) hb); clear BK127; clear HB; have BK127 := n0_; have HB := n1_; clear n0_ n1_; (try clear hb); (try clear hb2); (try clear hk); (try clear hi)) | ((with_reducible refine gate_dst (N := 7) rfl ?_); refine Kd.R_lit (Kd.int .u8) _ 5 ?hg (N := 7) ?hd (xs := ([] : List Int)) (inner := []) (ok := fun _ => True) (okp := fun _ => True) ?hr ?hp (fun _ hk => hk) trivial (Below.refl _ _) (Nat.le_refl _) (by simp) ?_; (case hd => rfl); (case hg => rfl); (case hr => first | (go_simp; done) | (go_simp; rfl)); (case hp => exact (Reps.none _ _)); intro v134 w16 ho17 hb hg_ hnew_; clear hg_ hnew_; (first | rw [← Ny133.out] at ho17 | (simp only [Int.reduceToNat] at ho17; rw [← Ny133.out] at ho17)); have n0_ := Aside0.mk (Kd.R_lower (Kd.R_newM (M := fun k_ => (w.heap.size ≤ k_)) ho17 (below_size (by repeat (first | (with_reducible first | exact HB.out | apply below_alloc | apply pw_below_drewN | apply below_drew1 | refine below_set ?_ GE127.out) | exact HB.out))) (fun k_ h_ => h_)) (below_size (by repeat (first | (with_reducible first | exact HB.out | apply below_alloc | apply pw_below_drewN | apply below_drew1 | refine below_set ?_ GE127.out) | exact HB.out)))); have n1_ := Aside0.mk (blk_below (g := gb127) (o := .cells #[.int .i64 a0_0, .int .i64 a0_1, .int .i64 a0_2, .bool a0_3, .string a0_4] 46 (0, 0)) (by (with_reducible repeat (first | refine blk_drewN ?_ _ | refine blk_drew ?_ | refine blk_alloc ?_ _)); exact BK127.out) hb); have n2_ := Aside0.mk (below_step (by repeat (first | (with_reducible first | exact HB.out | apply below_alloc | apply pw_below_drewN | apply below_drew1 | refine below_set ?_ GE127.out) | exact HB.out)) hb); clear BK127; clear HB; have HO135 := n0_; have BK127 := n1_; have HB := n2_; clear n0_ n1_ n2_; clear hb ho17))
    go_ret2
    exact ⟨_, by first | rfl | (simp [errW_none, errW_some] <;> rfl) | (simp [*, errW_none, errW_some] <;> rfl), Kd.R_V (by (with_reducible repeat (first | apply Kd.R_alloc | apply Kd.R_drewN | apply Kd.R_drew)); exact Kd.R_mono HO135.out (fun _ hk => hk.1)), by repeat (first | (with_reducible first | exact HB.out | apply below_alloc | apply pw_below_drewN | apply below_drew1 | refine below_set ?_ GE127.out) | exact HB.out)⟩

/-! ### laws_toDhcp: function 30 -/
def laws_toDhcp.f (a0_0 : Int) (a0_1 : Int) (a0_2 : Int) (a0_3 : Bool) (a0_4 : ByteArray) : Option (Int × Int × Int × Bool × ByteArray) := some (a0_0, a0_1, a0_2, a0_3, a0_4)
set_option maxHeartbeats 8000000 in
set_option maxRecDepth 100000 in
theorem laws_toDhcp.calls (a0_0 : Int) (a0_1 : Int) (a0_2 : Int) (a0_3 : Bool) (a0_4 : ByteArray) (r1 : Int) (r2 : Int) (r3 : Int) (r4 : Bool) (r5 : ByteArray) (w : World) (h : laws_toDhcp.f a0_0 a0_1 a0_2 a0_3 a0_4 = some (r1, r2, r3, r4, r5)) :
    Calls Try.prog 30 #[.agg #[.int .i64 a0_0, .int .i64 a0_1, .int .i64 a0_2, .bool a0_3, .string a0_4]] w fun e w' => e = .returned (.agg #[.int .i64 r1, .int .i64 r2, .int .i64 r3, .bool r4, .string r5]) ∧ Below w.heap.size w w' := by
  have hu43 := Try.underlying43
  have hu46 := Try.underlying46
  have HB := Aside0.mk (Below.refl w.heap.size w)
  have H : (some (a0_0, a0_1, a0_2, a0_3, a0_4)) = some (r1, r2, r3, r4, r5) := h
  clear h
  simp only [Option.some.injEq, Prod.mk.injEq] at H
  obtain ⟨rfl, rfl, rfl, rfl, rfl⟩ := H
  go_enter Try.func30, Try.ntmps30
  go_wp2_with (first | ((with_reducible refine gate_dst (N := 1) rfl ?_); refine box_event ?hg (N := 1) ?hd (cs := #[.int .i64 a0_0, .int .i64 a0_1, .int .i64 a0_2, .bool a0_3, .string a0_4]) (t := 43) ?hr ?_; (case hd => rfl); (case hg => rfl); (case hr => first | (go_simp; done) | (go_simp; rfl)); intro gb136 hg w2 hbox hb; have n0_ := Aside0.mk (below_step (by repeat (first | (with_reducible first | exact HB.out | apply below_alloc | apply pw_below_drewN | apply below_drew1) | exact HB.out)) hb); have n1_ := Aside0.mk (hbox); have n2_ := Aside0.mk ((by rw [hg]; exact (below_size (by repeat (first | (with_reducible first | exact HB.out | apply below_alloc | apply pw_below_drewN | apply below_drew1) | exact HB.out))) : w.heap.size ≤ gb136)); have n3_ := Aside0.mk ((by rw [hg]; exact (below_size (by repeat (first | (with_reducible first | exact HB.out | apply below_alloc | apply pw_below_drewN | apply below_drew1) | exact HB.out))) : w.heap.size ≤ gb136)); clear HB; have HB := n0_; have BK136 := n1_; have GW136 := n2_; have GE136 := n3_; clear n0_ n1_ n2_ n3_; clear hb hbox hg) | ((with_reducible refine gate_dst (N := 2) rfl ?_); refine box_event ?hg (N := 2) ?hd (cs := #[.int .i64 0, .int .i64 0, .int .i64 0, .bool false, .string (⟨#[]⟩ : ByteArray)]) (t := 46) ?hr ?_; (case hd => rfl); (case hg => rfl); (case hr => first | (go_simp; done) | (go_simp; rfl)); intro gb137 hg w3 hbox hb; have n0_ := Aside0.mk (blk_below (g := gb136) (o := .cells #[.int .i64 a0_0, .int .i64 a0_1, .int .i64 a0_2, .bool a0_3, .string a0_4] 43 (0, 0)) (by (with_reducible repeat (first | refine blk_drewN ?_ _ | refine blk_drew ?_ | refine blk_alloc ?_ _)); exact BK136.out) hb); have n1_ := Aside0.mk (below_step (by repeat (first | (with_reducible first | exact HB.out | apply below_alloc | apply pw_below_drewN | apply below_drew1 | refine below_set ?_ GE136.out) | exact HB.out)) hb); have n2_ := Aside0.mk (hbox); have n3_ := Aside0.mk ((by rw [hg]; exact (below_size (by repeat (first | (with_reducible first | exact HB.out | apply below_alloc | apply pw_below_drewN | apply below_drew1 | refine below_set ?_ GE136.out) | exact HB.out))) : w.heap.size ≤ gb137)); have n4_ := Aside0.mk ((by rw [hg]; exact (below_size (by repeat (first | (with_reducible first | exact HB.out | apply below_alloc | apply pw_below_drewN | apply below_drew1 | refine below_set ?_ GE136.out) | exact HB.out))) : w.heap.size ≤ gb137)); have n5_ := Aside0.mk ((by rw [hg]; exact Nat.ne_of_lt (blk_lt (g := gb136) (o := .cells #[.int .i64 a0_0, .int .i64 a0_1, .int .i64 a0_2, .bool a0_3, .string a0_4] 43 (0, 0)) (by (with_reducible repeat (first | refine blk_drewN ?_ _ | refine blk_drew ?_ | refine blk_alloc ?_ _)); exact BK136.out)) : gb136 ≠ gb137)); have n6_ := Aside0.mk ((by rw [hg]; exact Nat.ne_of_gt (blk_lt (g := gb136) (o := .cells #[.int .i64 a0_0, .int .i64 a0_1, .int .i64 a0_2, .bool a0_3, .string a0_4] 43 (0, 0)) (by (with_reducible repeat (first | refine blk_drewN ?_ _ | refine blk_drew ?_ | refine blk_alloc ?_ _)); exact BK136.out)) : gb137 ≠ gb136)); clear BK136; clear HB; have BK136 := n0_; have HB := n1_; have BK137 := n2_; have GW137 := n3_; have GE137 := n4_; have NB136_137 := n5_; have NB137_136 := n6_; clear n0_ n1_ n2_ n3_ n4_ n5_ n6_; clear hb hbox hg) | ((with_reducible refine gate_dst (N := 3) rfl ?_); refine box_event ?hg (N := 3) ?hd (cs := #[.int .i64 0, .int .i64 0, .int .i64 0, .bool false, .string (⟨#[]⟩ : ByteArray)]) (t := 46) ?hr ?_; (case hd => rfl); (case hg => rfl); (case hr => first | (go_simp; done) | (go_simp; rfl)); intro gb138 hg w4 hbox hb; have n0_ := Aside0.mk (blk_below (g := gb136) (o := .cells #[.int .i64 a0_0, .int .i64 a0_1, .int .i64 a0_2, .bool a0_3, .string a0_4] 43 (0, 0)) (by (with_reducible repeat (first | refine blk_drewN ?_ _ | refine blk_drew ?_ | refine blk_alloc ?_ _)); exact BK136.out) hb); have n1_ := Aside0.mk (blk_below (g := gb137) (o := .cells #[.int .i64 0, .int .i64 0, .int .i64 0, .bool false, .string (⟨#[]⟩ : ByteArray)] 46 (0, 0)) (by (with_reducible repeat (first | refine blk_drewN ?_ _ | refine blk_drew ?_ | refine blk_alloc ?_ _)); exact BK137.out) hb); have n2_ := Aside0.mk (below_step (by repeat (first | (with_reducible first | exact HB.out | apply below_alloc | apply pw_below_drewN | apply below_drew1 | refine below_set ?_ GE136.out | refine below_set ?_ GE137.out) | exact HB.out)) hb); have n3_ := Aside0.mk (hbox); have n4_ := Aside0.mk ((by rw [hg]; exact (below_size (by repeat (first | (with_reducible first | exact HB.out | apply below_alloc | apply pw_below_drewN | apply below_drew1 | refine below_set ?_ GE136.out | refine below_set ?_ GE137.out) | exact HB.out))) : w.heap.size ≤ gb138)); have n5_ := Aside0.mk ((by rw [hg]; exact (below_size (by repeat (first | (with_reducible first | exact HB.out | apply below_alloc | apply pw_below_drewN | apply below_drew1 | refine below_set ?_ GE136.out | refine below_set ?_ GE137.out) | exact HB.out))) : w.heap.size ≤ gb138)); have n6_ := Aside0.mk ((by rw [hg]; exact Nat.ne_of_lt (blk_lt (g := gb136) (o := .cells #[.int .i64 a0_0, .int .i64 a0_1, .int .i64 a0_2, .bool a0_3, .string a0_4] 43 (0, 0)) (by (with_reducible repeat (first | refine blk_drewN ?_ _ | refine blk_drew ?_ | refine blk_alloc ?_ _)); exact BK136.out)) : gb136 ≠ gb138)); have n7_ := Aside0.mk ((by rw [hg]; exact Nat.ne_of_gt (blk_lt (g := gb136) (o := .cells #[.int .i64 a0_0, .int .i64 a0_1, .int .i64 a0_2, .bool a0_3, .string a0_4] 43 (0, 0)) (by (with_reducible repeat (first | refine blk_drewN ?_ _ | refine blk_drew ?_ | refine blk_alloc ?_ _)); exact BK136.out)) : gb138 ≠ gb136)); have n8_ := Aside0.mk ((by rw [hg]; exact Nat.ne_of_lt (blk_lt (g := gb137) (o := .cells #[.int .i64 0, .int .i64 0, .int .i64 0, .bool false, .string (⟨#[]⟩ : ByteArray)] 46 (0, 0)) (by (with_reducible repeat (first | refine blk_drewN ?_ _ | refine blk_drew ?_ | refine blk_alloc ?_ _)); exact BK137.out)) : gb137 ≠ gb138)); have n9_ := Aside0.mk ((by rw [hg]; exact Nat.ne_of_gt (blk_lt (g := gb137) (o := .cells #[.int .i64 0, .int .i64 0, .int .i64 0, .bool false, .string (⟨#[]⟩ : ByteArray)] 46 (0, 0)) (by (with_reducible repeat (first | refine blk_drewN ?_ _ | refine blk_drew ?_ | refine blk_alloc ?_ _)); exact BK137.out)) : gb138 ≠ gb137)); clear BK136; clear BK137; clear HB; have BK136 := n0_; have BK137 := n1_; have HB := n2_; have BK138 := n3_; have GW138 := n4_; have GE138 := n5_; have NB136_138 := n6_; have NB138_136 := n7_; have NB137_138 := n8_; have NB138_137 := n9_; clear n0_ n1_ n2_ n3_ n4_ n5_ n6_ n7_ n8_ n9_; clear hb hbox hg; have hnb5 := NB136_137.out; have hnc5 := NB137_136.out; have hnb6 := NB136_138.out; have hnc6 := NB138_136.out; have hcz7_0 : w4.cell? ⟨gb136, 0, none⟩ = some (.int .i64 a0_0) := (blk_cell BK136.out 0).trans rfl; have hcz7_1 : w4.cell? ⟨gb136, 1, none⟩ = some (.int .i64 a0_1) := (blk_cell BK136.out 1).trans rfl; have hcz7_2 : w4.cell? ⟨gb136, 2, none⟩ = some (.int .i64 a0_2) := (blk_cell BK136.out 2).trans rfl; have hcz7_3 : w4.cell? ⟨gb136, 3, none⟩ = some (.bool a0_3) := (blk_cell BK136.out 3).trans rfl; have hcz7_4 : w4.cell? ⟨gb136, 4, none⟩ = some (.string a0_4) := (blk_cell BK136.out 4).trans rfl; have hfz7_0 := blk_frozen BK136.out 0; have hfz7_1 := blk_frozen BK136.out 1; have hfz7_2 := blk_frozen BK136.out 2; have hfz7_3 := blk_frozen BK136.out 3; have hfz7_4 := blk_frozen BK136.out 4; have hnb8 := NB138_137.out; have hnc8 := NB137_138.out; have hcz9_0 : w4.cell? ⟨gb138, 0, none⟩ = some (.int .i64 0) := (blk_cell BK138.out 0).trans rfl; have hcz9_1 : w4.cell? ⟨gb138, 1, none⟩ = some (.int .i64 0) := (blk_cell BK138.out 1).trans rfl; have hcz9_2 : w4.cell? ⟨gb138, 2, none⟩ = some (.int .i64 0) := (blk_cell BK138.out 2).trans rfl; have hcz9_3 : w4.cell? ⟨gb138, 3, none⟩ = some (.bool false) := (blk_cell BK138.out 3).trans rfl; have hcz9_4 : w4.cell? ⟨gb138, 4, none⟩ = some (.string (⟨#[]⟩ : ByteArray)) := (blk_cell BK138.out 4).trans rfl; have hfz9_0 := blk_frozen BK138.out 0; have hfz9_1 := blk_frozen BK138.out 1; have hfz9_2 := blk_frozen BK138.out 2; have hfz9_3 := blk_frozen BK138.out 3; have hfz9_4 := blk_frozen BK138.out 4; have hcz10_0 : w4.cell? ⟨gb137, 0, none⟩ = some (.int .i64 0) := (blk_cell BK137.out 0).trans rfl; have hcz10_1 : w4.cell? ⟨gb137, 1, none⟩ = some (.int .i64 0) := (blk_cell BK137.out 1).trans rfl; have hcz10_2 : w4.cell? ⟨gb137, 2, none⟩ = some (.int .i64 0) := (blk_cell BK137.out 2).trans rfl; have hcz10_3 : w4.cell? ⟨gb137, 3, none⟩ = some (.bool false) := (blk_cell BK137.out 3).trans rfl; have hcz10_4 : w4.cell? ⟨gb137, 4, none⟩ = some (.string (⟨#[]⟩ : ByteArray)) := (blk_cell BK137.out 4).trans rfl; have hfz10_0 := blk_frozen BK137.out 0; have hfz10_1 := blk_frozen BK137.out 1; have hfz10_2 := blk_frozen BK137.out 2; have hfz10_3 := blk_frozen BK137.out 3; have hfz10_4 := blk_frozen BK137.out 4))
  refine bodyPost_ret (results_cell_row rfl _ _ gb137 46 #[.int .i64 a0_0, .int .i64 a0_1, .int .i64 a0_2, .bool a0_3, .string a0_4] (0, 0) _ rfl (by (with_reducible repeat (first | refine blk_drewN ?_ _ | refine blk_drew ?_ | refine blk_alloc ?_ _)); refine blk_put (cs := #[.int .i64 a0_0, .int .i64 a0_1, .int .i64 a0_2, .bool a0_3, .string (⟨#[]⟩ : ByteArray)]) ?_ 4 _ rfl; (with_reducible repeat (first | refine blk_drewN ?_ _ | refine blk_drew ?_ | refine blk_alloc ?_ _)); refine blk_put (cs := #[.int .i64 a0_0, .int .i64 a0_1, .int .i64 a0_2, .bool false, .string (⟨#[]⟩ : ByteArray)]) ?_ 3 _ rfl; (with_reducible repeat (first | refine blk_drewN ?_ _ | refine blk_drew ?_ | refine blk_alloc ?_ _)); refine blk_put (cs := #[.int .i64 a0_0, .int .i64 a0_1, .int .i64 0, .bool false, .string (⟨#[]⟩ : ByteArray)]) ?_ 2 _ rfl; (with_reducible repeat (first | refine blk_drewN ?_ _ | refine blk_drew ?_ | refine blk_alloc ?_ _)); refine blk_put (cs := #[.int .i64 a0_0, .int .i64 0, .int .i64 0, .bool false, .string (⟨#[]⟩ : ByteArray)]) ?_ 1 _ rfl; (with_reducible repeat (first | refine blk_drewN ?_ _ | refine blk_drew ?_ | refine blk_alloc ?_ _)); refine blk_put (cs := #[.int .i64 0, .int .i64 0, .int .i64 0, .bool false, .string (⟨#[]⟩ : ByteArray)]) ?_ 0 _ rfl; (with_reducible repeat (first | refine blk_drewN ?_ _ | refine blk_drew ?_ | refine blk_alloc ?_ _)); refine blk_far ?_ NB137_138.out _; (with_reducible repeat (first | refine blk_drewN ?_ _ | refine blk_drew ?_ | refine blk_alloc ?_ _)); refine blk_far ?_ NB137_138.out _; (with_reducible repeat (first | refine blk_drewN ?_ _ | refine blk_drew ?_ | refine blk_alloc ?_ _)); refine blk_far ?_ NB137_138.out _; (with_reducible repeat (first | refine blk_drewN ?_ _ | refine blk_drew ?_ | refine blk_alloc ?_ _)); refine blk_far ?_ NB137_138.out _; (with_reducible repeat (first | refine blk_drewN ?_ _ | refine blk_drew ?_ | refine blk_alloc ?_ _)); refine blk_far ?_ NB137_138.out _; (with_reducible repeat (first | refine blk_drewN ?_ _ | refine blk_drew ?_ | refine blk_alloc ?_ _)); exact BK137.out) Try.underlying46 rfl (by kernel_rfl)) rfl ?_
  exact ⟨by first | rfl | (simp [errW_none, errW_some] <;> rfl) | (simp [*, errW_none, errW_some] <;> rfl), by repeat (first | (with_reducible first | exact HB.out | apply below_alloc | apply pw_below_drewN | apply below_drew1 | refine below_set ?_ GE136.out | refine below_set ?_ GE137.out | refine below_set ?_ GE138.out) | exact HB.out)⟩

/-! ### impl_within: function 61 -/
def impl_within.f (a0 : Int) (a1 : Int) (a2 : Int) : Option (Bool) := if a0 ≥ a1 then (some (decide (a0 ≤ a2))) else (some false)
set_option maxHeartbeats 8000000 in
set_option maxRecDepth 100000 in
theorem impl_within.calls (a0 : Int) (a1 : Int) (a2 : Int) (r : Bool) (w : World) (h : impl_within.f a0 a1 a2 = some r) :
    Calls Try.prog 61 #[.int .i64 a0, .int .i64 a1, .int .i64 a2] w fun e w' => e = .returned (.bool r) ∧ Drawn0 w w' := by
  have H : (if a0 ≥ a1 then (some (decide (a0 ≤ a2))) else (some false)) = some r := h
  clear h
  by_cases c4 : a0 ≥ a1
  · rw [if_pos c4] at H
    have c4b0 : decide (a1 ≤ a0) = true := decide_eq_true c4
    clear c4
    obtain rfl := Option.some.inj H
    go_enter Try.func61, Try.ntmps61
    go_wp2
    go_ret
    exact ⟨by first | rfl | (simp; done) | (simp [*]; done), by repeat (first | exact Drawn0.refl _ | apply Drawn0.step)⟩
  · rw [if_neg c4] at H
    have c4b0 : decide (a1 ≤ a0) = false := decide_eq_false c4
    clear c4
    obtain rfl := Option.some.inj H
    go_enter Try.func61, Try.ntmps61
    go_wp2
    go_ret
    exact ⟨by first | rfl | (simp; done) | (simp [*]; done), by repeat (first | exact Drawn0.refl _ | apply Drawn0.step)⟩

end Go.Proofs.Ythfhflgiblmooaa.PDh
