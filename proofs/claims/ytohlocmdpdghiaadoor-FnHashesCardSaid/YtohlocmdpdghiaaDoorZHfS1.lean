/- The walk of impl.sha, part 1: SHA-256 over arrays, a range over slices.Chunk (by hand, over the print of impl.num and impl.be). Nothing here is trusted: it is checked. -/
import Derived.Test.YtohlocmdpdghiaaDoorZHfQx1
import Derived.StillTailTactics
import Derived.Deep.LoopGhost
namespace Go.Proofs.YtohlocmdpdghiaaDoor.Sha
open Go.RowKit Go.Proofs.YtohlocmdpdghiaaDoor.PHn Go.Proofs.YtohlocmdpdghiaaDoorW.PrintWords Go.Proofs.YtohlocmdpdghiaaDoorW.PrintLast Go.Proofs.YtohlocmdpdghiaaDoorW.PrintMore
set_option linter.unusedVariables false
set_option linter.unusedSimpArgs false
def rgt (x : Int) (n : Nat) : Int := Go.bits .or .u32 (x * 2 ^ (32 - n) % 4294967296) (x / 2 ^ n)
def u32s (l : List Int) : Array Value := (l.map (Value.int .u32)).toArray
set_option maxHeartbeats 8000000 in
set_option maxRecDepth 100000 in
theorem rot_same (x n : Int) (s : Int) (h0 : 0 < s) (h1 : s < 32) (hn : Go.bits .and .u64 (IntKind.u64.wrap n) 31 = s) (w : World) :
    Calls Tryd.prog 52 #[.int .u32 x, .int .i64 n] w fun e w' => e = .returned (.int .u32 (rgt x (32 - s).toNat)) ∧ w' = w := by
  have c4b0 : (0 ≤ s) = True := eq_true (by omega)
  have c4b1 : decide (0 ≤ s) = true := decide_eq_true (by omega)
  have hw : IntKind.u64.wrap (32 - s) = 32 - s := by show (32 - s) % 18446744073709551616 = _; omega
  have c7b0 : (0 ≤ 32 - s) = True := eq_true (by omega)
  have c7b1 : decide (0 ≤ 32 - s) = true := decide_eq_true (by omega)
  have e32 : 32 - (32 - s).toNat = s.toNat := by omega
  go_enter Tryd.func52, Tryd.ntmps52
  go_wp2
  go_ret
  refine ⟨?_, rfl⟩
  unfold rgt
  rw [e32]
  rfl
set_option maxHeartbeats 8000000 in
set_option maxRecDepth 100000 in
theorem right_any (x n : Int) (m : Nat) (h0 : 0 < m) (h1 : m < 32) (hn : Go.bits .and .u64 (IntKind.u64.wrap (wrap64 (-n))) 31 = ((32 - m : Nat) : Int)) (w : World) :
    Calls Tryd.prog 48 #[.int .u32 x, .int .i64 n] w fun e w' => e = .returned (.int .u32 (rgt x m)) ∧ w' = w := by
  have hr := rot_same x (wrap64 (-n)) ((32 - m : Nat) : Int) (by omega) (by omega) hn w
  have e : ((32 : Int) - ((32 - m : Nat) : Int)).toNat = m := by omega
  rw [e] at hr
  go_enter Tryd.func48, Tryd.ntmps48
  go_wp2_with (first | (refine hr.mono ?_; rintro e w' ⟨rfl, rfl⟩))
  go_ret
  exact ⟨rfl, rfl⟩
theorem right_2 (x : Int) (w : World) : Calls Tryd.prog 48 #[.int .u32 x, .int .i64 2] w fun e w' => e = .returned (.int .u32 (rgt x 2)) ∧ w' = w := right_any x 2 2 (by decide) (by decide) (by decide +kernel) w
theorem right_6 (x : Int) (w : World) : Calls Tryd.prog 48 #[.int .u32 x, .int .i64 6] w fun e w' => e = .returned (.int .u32 (rgt x 6)) ∧ w' = w := right_any x 6 6 (by decide) (by decide) (by decide +kernel) w
theorem right_7 (x : Int) (w : World) : Calls Tryd.prog 48 #[.int .u32 x, .int .i64 7] w fun e w' => e = .returned (.int .u32 (rgt x 7)) ∧ w' = w := right_any x 7 7 (by decide) (by decide) (by decide +kernel) w
theorem right_11 (x : Int) (w : World) : Calls Tryd.prog 48 #[.int .u32 x, .int .i64 11] w fun e w' => e = .returned (.int .u32 (rgt x 11)) ∧ w' = w := right_any x 11 11 (by decide) (by decide) (by decide +kernel) w
theorem right_13 (x : Int) (w : World) : Calls Tryd.prog 48 #[.int .u32 x, .int .i64 13] w fun e w' => e = .returned (.int .u32 (rgt x 13)) ∧ w' = w := right_any x 13 13 (by decide) (by decide) (by decide +kernel) w
theorem right_17 (x : Int) (w : World) : Calls Tryd.prog 48 #[.int .u32 x, .int .i64 17] w fun e w' => e = .returned (.int .u32 (rgt x 17)) ∧ w' = w := right_any x 17 17 (by decide) (by decide) (by decide +kernel) w
theorem right_18 (x : Int) (w : World) : Calls Tryd.prog 48 #[.int .u32 x, .int .i64 18] w fun e w' => e = .returned (.int .u32 (rgt x 18)) ∧ w' = w := right_any x 18 18 (by decide) (by decide) (by decide +kernel) w
theorem right_19 (x : Int) (w : World) : Calls Tryd.prog 48 #[.int .u32 x, .int .i64 19] w fun e w' => e = .returned (.int .u32 (rgt x 19)) ∧ w' = w := right_any x 19 19 (by decide) (by decide) (by decide +kernel) w
theorem right_22 (x : Int) (w : World) : Calls Tryd.prog 48 #[.int .u32 x, .int .i64 22] w fun e w' => e = .returned (.int .u32 (rgt x 22)) ∧ w' = w := right_any x 22 22 (by decide) (by decide) (by decide +kernel) w
theorem right_25 (x : Int) (w : World) : Calls Tryd.prog 48 #[.int .u32 x, .int .i64 25] w fun e w' => e = .returned (.int .u32 (rgt x 25)) ∧ w' = w := right_any x 25 25 (by decide) (by decide) (by decide +kernel) w
end Go.Proofs.YtohlocmdpdghiaaDoor.Sha
