-- Printed by this session's own program (wip/tools/myprint.py over the kit's print, out of the translation). Nothing here is trusted: Lean checks it.
import Derived.Test.YtpnbhgoblgbdkaaDoorPDrx0
import Derived.Test.YtpnbhgoblgbdkaaDoorPDrx2
namespace Go.Proofs.YtpnbhgoblgbdkaaDoor.PDr
open Go.RowKit Go.Proofs.YtpnbhgoblgbdkaaDoorW.PrintWords Go.Proofs.YtpnbhgoblgbdkaaDoorW.PrintLast Go.Proofs.YtpnbhgoblgbdkaaDoorW.PrintMore
attribute [local go_sem] w64_u8 w64_u8_4 max2_int min2_int max_two min_two max_three min_three max_four min_four   -- for this text's walks alone
set_option linter.unusedVariables false
set_option linter.unusedSimpArgs false

/-! ### spec_l03ReadDns: function 65 -/
mutual
def spec_l03ReadDns.j0 : Nat → ByteArray → Bool → Option (Int × Int × Bool × ByteArray × Int)
  | 0, _, _ => none
  | k + 1, x0, x15 => if x15 = true then (some (0, 0, false, (⟨#[]⟩ : ByteArray), 3)) else (if 0 ≤ 2 then (if 2 ≤ (x0.size : Int) then ((spec_l01Of.f k (x0.extract 0 2)).bind fun t130 => (if 2 < (x0.size : Int) then (spec_l03ReadDns.l0 k x0 12 t130 0 (decide ((bt x0 2) ≥ 128)) (⟨#[]⟩ : ByteArray)) else (none))) else (none)) else (none))
def spec_l03ReadDns.l0 : Nat → ByteArray → Int → Int → Int → Bool → ByteArray → Option (Int × Int × Bool × ByteArray × Int)
  | 0, _, _, _, _, _, _ => none
  | k + 1, x0, x5, x132000, x132001, x132002, x132003 => if x5 ≥ (x0.size : Int) then (some (0, 0, false, (⟨#[]⟩ : ByteArray), 3)) else (if 0 ≤ x5 then (if x5 < (x0.size : Int) then (if (wrap64 (bt x0 x5)) = 0 then (if (wrap64 ((wrap64 (x5 + 1)) + 4)) > (x0.size : Int) then (spec_l03ReadDns.j3 k x0 (wrap64 (x5 + 1)) true x132000 x132001 x132002 x132003) else (if 0 ≤ (wrap64 ((wrap64 (x5 + 1)) + 2)) then (if (wrap64 ((wrap64 (x5 + 1)) + 2)) ≤ (wrap64 ((wrap64 (x5 + 1)) + 4)) then (if (wrap64 ((wrap64 (x5 + 1)) + 4)) ≤ (x0.size : Int) then ((spec_l01Of.f k (x0.extract ((wrap64 ((wrap64 (x5 + 1)) + 2)) : Int).toNat ((wrap64 ((wrap64 (x5 + 1)) + 4)) : Int).toNat)).bind fun t132 => (spec_l03ReadDns.j3 k x0 (wrap64 (x5 + 1)) (t132 != 1) x132000 x132001 x132002 x132003)) else (none)) else (none)) else (none))) else (if (wrap64 (bt x0 x5)) > 63 then (spec_l03ReadDns.j2 k x0 (wrap64 (x5 + 1)) (wrap64 (bt x0 x5)) true x132000 x132001 x132002 x132003) else (spec_l03ReadDns.j2 k x0 (wrap64 (x5 + 1)) (wrap64 (bt x0 x5)) (decide ((wrap64 ((wrap64 (x5 + 1)) + (wrap64 (bt x0 x5)))) > (x0.size : Int))) x132000 x132001 x132002 x132003))) else (none)) else (none))
def spec_l03ReadDns.j3 : Nat → ByteArray → Int → Bool → Int → Int → Bool → ByteArray → Option (Int × Int × Bool × ByteArray × Int)
  | 0, _, _, _, _, _, _, _ => none
  | k + 1, x0, x5, x82, x132000, x132001, x132002, x132003 => if x82 = true then (some (0, 0, false, (⟨#[]⟩ : ByteArray), 3)) else (if 0 ≤ x5 then (if x5 ≤ (wrap64 (x5 + 2)) then (if (wrap64 (x5 + 2)) ≤ (x0.size : Int) then ((spec_l01Of.f k (x0.extract (x5 : Int).toNat ((wrap64 (x5 + 2)) : Int).toNat)).bind fun t133 => ((spec_l03Dns.f k x132000 t133 x132002 x132003).bind fun t134 => (if t134 = true then (some (x132000, t133, x132002, x132003, 0)) else (some (0, 0, false, (⟨#[]⟩ : ByteArray), 3))))) else (none)) else (none)) else (none))
def spec_l03ReadDns.j2 : Nat → ByteArray → Int → Int → Bool → Int → Int → Bool → ByteArray → Option (Int × Int × Bool × ByteArray × Int)
  | 0, _, _, _, _, _, _, _, _ => none
  | k + 1, x0, x5, x6, x46, x132000, x132001, x132002, x132003 => if x46 = true then (some (0, 0, false, (⟨#[]⟩ : ByteArray), 3)) else (if x132003.toList = ([] : List UInt8) then (if 0 ≤ x5 then (if x5 ≤ (wrap64 (x5 + x6)) then (if (wrap64 (x5 + x6)) ≤ (x0.size : Int) then (if x132003.size + (x0.extract (x5 : Int).toNat ((wrap64 (x5 + x6)) : Int).toNat).size ≤ 9223372036854775807 then (spec_l03ReadDns.l0 k x0 (wrap64 (x5 + x6)) x132000 x132001 x132002 (x132003 ++ (x0.extract (x5 : Int).toNat ((wrap64 (x5 + x6)) : Int).toNat))) else (none)) else (none)) else (none)) else (none)) else (if x132003.size + 1 ≤ 9223372036854775807 then (if 0 ≤ x5 then (if x5 ≤ (wrap64 (x5 + x6)) then (if (wrap64 (x5 + x6)) ≤ (x0.size : Int) then (if (x132003 ++ (⟨#[46]⟩ : ByteArray)).size + (x0.extract (x5 : Int).toNat ((wrap64 (x5 + x6)) : Int).toNat).size ≤ 9223372036854775807 then (spec_l03ReadDns.l0 k x0 (wrap64 (x5 + x6)) x132000 x132001 x132002 ((x132003 ++ (⟨#[46]⟩ : ByteArray)) ++ (x0.extract (x5 : Int).toNat ((wrap64 (x5 + x6)) : Int).toNat))) else (none)) else (none)) else (none)) else (none)) else (none)))
end
def spec_l03ReadDns.f (k : Nat) (a0 : ByteArray) : Option (Int × Int × Bool × ByteArray × Int) := if (a0.size : Int) < 12 then (spec_l03ReadDns.j0 k a0 true) else (if 4 ≤ 6 then (if 6 ≤ (a0.size : Int) then ((spec_l01Of.f k (a0.extract 4 6)).bind fun t129 => (spec_l03ReadDns.j0 k a0 (t129 != 1))) else (none)) else (none))
theorem spec_l03ReadDns.mono_l : ∀ k, (∀ y0 y1, LeO (spec_l03ReadDns.j0 k y0 y1) (spec_l03ReadDns.j0 (k + 1) y0 y1)) ∧ (∀ y0 y1 y2 y3 y4 y5, LeO (spec_l03ReadDns.l0 k y0 y1 y2 y3 y4 y5) (spec_l03ReadDns.l0 (k + 1) y0 y1 y2 y3 y4 y5)) ∧ (∀ y0 y1 y2 y3 y4 y5 y6, LeO (spec_l03ReadDns.j3 k y0 y1 y2 y3 y4 y5 y6) (spec_l03ReadDns.j3 (k + 1) y0 y1 y2 y3 y4 y5 y6)) ∧ (∀ y0 y1 y2 y3 y4 y5 y6 y7, LeO (spec_l03ReadDns.j2 k y0 y1 y2 y3 y4 y5 y6 y7) (spec_l03ReadDns.j2 (k + 1) y0 y1 y2 y3 y4 y5 y6 y7))
  | 0 => ⟨fun _ _ r h => by simp [spec_l03ReadDns.j0] at h, fun _ _ _ _ _ _ r h => by simp [spec_l03ReadDns.l0] at h, fun _ _ _ _ _ _ _ r h => by simp [spec_l03ReadDns.j3] at h, fun _ _ _ _ _ _ _ _ r h => by simp [spec_l03ReadDns.j2] at h⟩
  | k + 1 => by
    obtain ⟨ih0, ih1, ih2, ih3⟩ := spec_l03ReadDns.mono_l k
    refine ⟨?_, ?_, ?_, ?_⟩
    · intro y0 y1
      unfold spec_l03ReadDns.j0
      repeat' first
      | (with_reducible exact ih0 _ _)
      | (with_reducible exact ih1 _ _ _ _ _ _)
      | (with_reducible exact ih2 _ _ _ _ _ _ _)
      | (with_reducible exact ih3 _ _ _ _ _ _ _ _)
      | (with_reducible exact spec_l01Of.mono _ _)
      | (with_reducible exact spec_l03Dns.mono _ _ _ _ _)
      | (with_reducible exact LeO.refl _)
      | (with_reducible exact LeO.none _)
      | (with_reducible refine LeO.ite ?_ ?_)
      | (with_reducible refine LeO.bind ?_ (fun _ => ?_))
      | exact ih0 _ _
      | exact ih1 _ _ _ _ _ _
      | exact ih2 _ _ _ _ _ _ _
      | exact ih3 _ _ _ _ _ _ _ _
      | exact spec_l01Of.mono _ _
      | exact spec_l03Dns.mono _ _ _ _ _
      | exact LeO.none _
      | refine LeO.ite ?_ ?_
      | refine LeO.bind ?_ (fun _ => ?_)
    · intro y0 y1 y2 y3 y4 y5
      unfold spec_l03ReadDns.l0
      repeat' first
      | (with_reducible exact ih0 _ _)
      | (with_reducible exact ih1 _ _ _ _ _ _)
      | (with_reducible exact ih2 _ _ _ _ _ _ _)
      | (with_reducible exact ih3 _ _ _ _ _ _ _ _)
      | (with_reducible exact spec_l01Of.mono _ _)
      | (with_reducible exact spec_l03Dns.mono _ _ _ _ _)
      | (with_reducible exact LeO.refl _)
      | (with_reducible exact LeO.none _)
      | (with_reducible refine LeO.ite ?_ ?_)
      | (with_reducible refine LeO.bind ?_ (fun _ => ?_))
      | exact ih0 _ _
      | exact ih1 _ _ _ _ _ _
      | exact ih2 _ _ _ _ _ _ _
      | exact ih3 _ _ _ _ _ _ _ _
      | exact spec_l01Of.mono _ _
      | exact spec_l03Dns.mono _ _ _ _ _
      | exact LeO.none _
      | refine LeO.ite ?_ ?_
      | refine LeO.bind ?_ (fun _ => ?_)
    · intro y0 y1 y2 y3 y4 y5 y6
      unfold spec_l03ReadDns.j3
      repeat' first
      | (with_reducible exact ih0 _ _)
      | (with_reducible exact ih1 _ _ _ _ _ _)
      | (with_reducible exact ih2 _ _ _ _ _ _ _)
      | (with_reducible exact ih3 _ _ _ _ _ _ _ _)
      | (with_reducible exact spec_l01Of.mono _ _)
      | (with_reducible exact spec_l03Dns.mono _ _ _ _ _)
      | (with_reducible exact LeO.refl _)
      | (with_reducible exact LeO.none _)
      | (with_reducible refine LeO.ite ?_ ?_)
      | (with_reducible refine LeO.bind ?_ (fun _ => ?_))
      | exact ih0 _ _
      | exact ih1 _ _ _ _ _ _
      | exact ih2 _ _ _ _ _ _ _
      | exact ih3 _ _ _ _ _ _ _ _
      | exact spec_l01Of.mono _ _
      | exact spec_l03Dns.mono _ _ _ _ _
      | exact LeO.none _
      | refine LeO.ite ?_ ?_
      | refine LeO.bind ?_ (fun _ => ?_)
    · intro y0 y1 y2 y3 y4 y5 y6 y7
      unfold spec_l03ReadDns.j2
      repeat' first
      | (with_reducible exact ih0 _ _)
      | (with_reducible exact ih1 _ _ _ _ _ _)
      | (with_reducible exact ih2 _ _ _ _ _ _ _)
      | (with_reducible exact ih3 _ _ _ _ _ _ _ _)
      | (with_reducible exact spec_l01Of.mono _ _)
      | (with_reducible exact spec_l03Dns.mono _ _ _ _ _)
      | (with_reducible exact LeO.refl _)
      | (with_reducible exact LeO.none _)
      | (with_reducible refine LeO.ite ?_ ?_)
      | (with_reducible refine LeO.bind ?_ (fun _ => ?_))
      | exact ih0 _ _
      | exact ih1 _ _ _ _ _ _
      | exact ih2 _ _ _ _ _ _ _
      | exact ih3 _ _ _ _ _ _ _ _
      | exact spec_l01Of.mono _ _
      | exact spec_l03Dns.mono _ _ _ _ _
      | exact LeO.none _
      | refine LeO.ite ?_ ?_
      | refine LeO.bind ?_ (fun _ => ?_)
theorem spec_l03ReadDns.mono : ∀ a0 k, LeO (spec_l03ReadDns.f k a0) (spec_l03ReadDns.f (k + 1) a0) := by
  intro a0 k
  obtain ⟨ih0, ih1, ih2, ih3⟩ := spec_l03ReadDns.mono_l k
  unfold spec_l03ReadDns.f
  repeat' first
      | (with_reducible exact ih0 _ _)
      | (with_reducible exact ih1 _ _ _ _ _ _)
      | (with_reducible exact ih2 _ _ _ _ _ _ _)
      | (with_reducible exact ih3 _ _ _ _ _ _ _ _)
      | (with_reducible exact spec_l01Of.mono _ _)
      | (with_reducible exact spec_l03Dns.mono _ _ _ _ _)
      | (with_reducible exact LeO.refl _)
      | (with_reducible exact LeO.none _)
      | (with_reducible refine LeO.ite ?_ ?_)
      | (with_reducible refine LeO.bind ?_ (fun _ => ?_))
      | exact ih0 _ _
      | exact ih1 _ _ _ _ _ _
      | exact ih2 _ _ _ _ _ _ _
      | exact ih3 _ _ _ _ _ _ _ _
      | exact spec_l01Of.mono _ _
      | exact spec_l03Dns.mono _ _ _ _ _
      | exact LeO.none _
      | refine LeO.ite ?_ ?_
      | refine LeO.bind ?_ (fun _ => ?_)
def spec_l03ReadDns.T3 : Bool × List (List Nat × List Nat) := (true, [([], []), ([0], [0]), ([1], [1]), ([], []), ([3], [3]), ([4], [4]), ([2, 5], [2, 5]), ([], []), ([7, 6, 2, 0, 1, 2, 3, 4, 5, 6, 7], [6, 7])])
def spec_l03ReadDns.B3 : List Nat := [0, 1, 3, 0, 8, 24, 63, 0, 255]
theorem spec_l03ReadDns.tab3 : rtab .any (opsOf Tryd.f65 3) = spec_l03ReadDns.T3 := by kernel_rfl
theorem spec_l03ReadDns.bits3 : waitsOk spec_l03ReadDns.T3.2 spec_l03ReadDns.B3 = true := by kernel_rfl
def spec_l03ReadDns.T14 : Bool × List (List Nat × List Nat) := (true, [([], []), ([0], [0]), ([], []), ([], []), ([], []), ([], []), ([4, 5], [4, 5]), ([2, 3, 6], [2, 3, 6]), ([1, 7], [1, 7]), ([0, 1, 2, 3, 4, 5, 6, 7, 8], []), ([9, 8, 0, 1, 2, 3, 4, 5, 6, 7, 8], [8, 9])])
def spec_l03ReadDns.B14 : List Nat := [0, 1, 0, 0, 0, 0, 48, 124, 255, 511, 1023]
theorem spec_l03ReadDns.tab14 : rtab .any (opsOf Tryd.f65 14) = spec_l03ReadDns.T14 := by kernel_rfl
theorem spec_l03ReadDns.bits14 : waitsOk spec_l03ReadDns.T14.2 spec_l03ReadDns.B14 = true := by kernel_rfl
set_option maxHeartbeats 8000000 in
set_option maxRecDepth 100000 in
theorem spec_l03ReadDns.calls (k : Nat) (a0 : ByteArray) (r1 : Int) (r2 : Int) (r3 : Bool) (r4 : ByteArray) (r5 : Int) (w : World) (h : spec_l03ReadDns.f k a0 = some (r1, r2, r3, r4, r5)) :
    Calls Tryd.prog 65 #[.string a0] w fun e w' => e = .returned (.tuple #[.agg #[.int .i64 r1, .int .i64 r2, .bool r3, .string r4], .int .i64 r5]) ∧ Below w.heap.size w w' := by
  have hu44 := Tryd.underlying44
  have HB := Aside0.mk (Below.refl w.heap.size w)
  have H : (if (a0.size : Int) < 12 then (spec_l03ReadDns.j0 k a0 true) else (if 4 ≤ 6 then (if 6 ≤ (a0.size : Int) then ((spec_l01Of.f k (a0.extract 4 6)).bind fun t129 => (spec_l03ReadDns.j0 k a0 (t129 != 1))) else (none)) else (none))) = some (r1, r2, r3, r4, r5) := h
  clear h
  have HC2 := Aside0.mk H
  clear H
  go_enter Tryd.func65, Tryd.ntmps65
  go_upto_region 1 with (first | ((with_reducible refine gate_dst (N := 2) rfl ?_); (try (refine gate_guard (by rfl) ?_; dsimp only)); refine box_event ?hg (N := 2) ?hd (cs := #[.int .i64 0, .int .i64 0, .bool false, .string (⟨#[]⟩ : ByteArray)]) (t := 44) ?hr ?_; (case hd => rfl); (case hg => rfl); (case hr => first | (go_simp; done) | (go_simp; rfl)); intro gb128 hg w3 hbox hb; have n0_ := Aside0.mk (below_step (by repeat (first | (with_reducible first | exact HB.out | apply below_alloc | apply pw_below_drewN | apply below_drew1) | exact HB.out)) hb); have n1_ := Aside0.mk (hbox); have n2_ := Aside0.mk ((by rw [hg]; exact (below_size (by repeat (first | (with_reducible first | exact HB.out | apply below_alloc | apply pw_below_drewN | apply below_drew1) | exact HB.out))) : w.heap.size ≤ gb128)); have n3_ := Aside0.mk ((by rw [hg]; exact (below_size (by repeat (first | (with_reducible first | exact HB.out | apply below_alloc | apply pw_below_drewN | apply below_drew1) | exact HB.out))) : w.heap.size ≤ gb128)); clear HB; have HB := n0_; have BK128 := n1_; have GW128 := n2_; have GE128 := n3_; clear n0_ n1_ n2_ n3_; clear hb hbox hg))
  (try simp only [Act.put, List.setIfInBounds_toArray, List.set_cons_zero, List.set_cons_succ])
  go_cut [15] (fun v15 wc => ∃ (kq : Nat) (x15_1 : Bool), v15 = .bool x15_1 ∧ Aside0 (spec_l03ReadDns.j0 kq a0 x15_1 = some (r1, r2, r3, r4, r5)) ∧ Aside0 (kq ≤ k) ∧ Aside0 (wc.heap[gb128]? = some (.cells #[.int .i64 0, .int .i64 0, .bool false, .string (⟨#[]⟩ : ByteArray)] 44 (0, 0))) ∧ Aside0 (Below w.heap.size w wc))
  case first =>
    have H := HC2.out
    clear HC2
    by_cases c4 : (a0.size : Int) < 12
    · rw [if_pos c4] at H
      have c4b0 : decide ((a0.size : Int) < 12) = true := decide_eq_true c4
      have c4b1 : decide (a0.size < 12) = true := decide_eq_true (by omega)
      clear c4
      (first | rw [c4b0] | (simp only [i64_w, i32_w]; rw [c4b0]) | skip)
      have H' := Aside0.mk H
      clear H
      go_wp2
      go_meet
      case rel => exact ⟨_, (true), (by first | rfl | (simp; done) | (simp [*]; done)), H', ⟨by first | omega | exact Nat.le_refl _⟩, ⟨by (with_reducible repeat (first | refine blk_drewN ?_ _ | refine blk_drew ?_ | refine blk_alloc ?_ _)); exact BK128.out⟩, ⟨by repeat (first | (with_reducible first | exact HB.out | apply below_alloc | apply pw_below_drewN | apply below_drew1 | refine below_set ?_ GE128.out) | exact HB.out)⟩⟩
    · rw [if_neg c4] at H
      have c4b0 : decide ((a0.size : Int) < 12) = false := decide_eq_false c4
      have c4b1 : decide (a0.size < 12) = false := decide_eq_false (by omega)
      clear c4
      (first | rw [c4b0] | (simp only [i64_w, i32_w]; rw [c4b0]) | skip)
      by_cases c5 : 4 ≤ 6
      · rw [if_pos c5] at H
        have c5b0 := eq_true c5
        have c5b1 : decide (4 ≤ 6) = true := decide_eq_true c5
        clear c5
        by_cases c6 : 6 ≤ (a0.size : Int)
        · rw [if_pos c6] at H
          have c6b0 := eq_true c6
          have c6b1 : decide (6 ≤ (a0.size : Int)) = true := decide_eq_true c6
          clear c6
          replace H := Option.bind_eq_some_iff.mp H
          obtain ⟨t129, A70, H⟩ := H
          replace H : (spec_l03ReadDns.j0 k a0 (t129 != 1)) = some (r1, r2, r3, r4, r5) := H
          have A7 := Aside0.mk A70
          clear A70
          have H' := Aside0.mk H
          clear H
          go_wp2_with (first | (go_at_call 84; (with_reducible refine (spec_l01Of.calls k (a0.extract 4 6) t129 _ A7.out).mono ?_); rintro e w' ⟨rfl, ⟨nd, rfl⟩⟩))
          go_meet
          case rel => exact ⟨_, ((t129 != 1)), (by first | rfl | (simp; done) | (simp [*]; done)), H', ⟨by first | omega | exact Nat.le_refl _⟩, ⟨by (with_reducible repeat (first | refine blk_drewN ?_ _ | refine blk_drew ?_ | refine blk_alloc ?_ _)); exact BK128.out⟩, ⟨by repeat (first | (with_reducible first | exact HB.out | apply below_alloc | apply pw_below_drewN | apply below_drew1 | refine below_set ?_ GE128.out) | exact HB.out)⟩⟩
        · rw [if_neg c6] at H
          exact absurd H (by simp)
      · rw [if_neg c5] at H
        exact absurd H (by simp)
  case rest =>
    clear HC2
    try clear p2
    try clear c4
    try clear c4b0
    try clear c4b1
    try clear c5
    try clear c5b0
    try clear c5b1
    try clear c6
    try clear c6b0
    try clear c6b1
    obtain ⟨kq, x15_1, rfl, HA, HJ1, BK128, HB⟩ := hcut
    cases kq with
    | zero => exact absurd HA.out (by simp [spec_l03ReadDns.j0])
    | succ kj1 =>
      have H := HA.out
      clear HA
      simp only [spec_l03ReadDns.j0] at H
      by_cases c8 : x15_1 = true
      · subst c8
        have H1 : (some (0, 0, false, (⟨#[]⟩ : ByteArray), 3)) = some (r1, r2, r3, r4, r5) := by rw [if_pos rfl] at H; exact H
        clear H
        have H := H1
        clear H1
        simp only [Option.some.injEq, Prod.mk.injEq] at H
        obtain ⟨rfl, rfl, rfl, rfl, rfl⟩ := H
        have hcz9_0 : wc.cell? ⟨gb128, 0, none⟩ = some (.int .i64 0) := (blk_cell BK128.out 0).trans rfl
        have hcz9_1 : wc.cell? ⟨gb128, 1, none⟩ = some (.int .i64 0) := (blk_cell BK128.out 1).trans rfl
        have hcz9_2 : wc.cell? ⟨gb128, 2, none⟩ = some (.bool false) := (blk_cell BK128.out 2).trans rfl
        have hcz9_3 : wc.cell? ⟨gb128, 3, none⟩ = some (.string (⟨#[]⟩ : ByteArray)) := (blk_cell BK128.out 3).trans rfl
        have hfz9_0 := blk_frozen BK128.out 0
        have hfz9_1 := blk_frozen BK128.out 1
        have hfz9_2 := blk_frozen BK128.out 2
        have hfz9_3 := blk_frozen BK128.out 3
        go_wp2
        refine bodyPost_ret (results_ct rfl _ _ gb128 44 #[.int .i64 0, .int .i64 0, .bool false, .string (⟨#[]⟩ : ByteArray)] (0, 0) _ rfl (by (with_reducible repeat (first | refine blk_drewN ?_ _ | refine blk_drew ?_ | refine blk_alloc ?_ _)); refine blk_put (cs := #[.int .i64 0, .int .i64 0, .bool false, .string (⟨#[]⟩ : ByteArray)]) ?_ 3 _ rfl; (with_reducible repeat (first | refine blk_drewN ?_ _ | refine blk_drew ?_ | refine blk_alloc ?_ _)); refine blk_put (cs := #[.int .i64 0, .int .i64 0, .bool false, .string (⟨#[]⟩ : ByteArray)]) ?_ 2 _ rfl; (with_reducible repeat (first | refine blk_drewN ?_ _ | refine blk_drew ?_ | refine blk_alloc ?_ _)); refine blk_put (cs := #[.int .i64 0, .int .i64 0, .bool false, .string (⟨#[]⟩ : ByteArray)]) ?_ 1 _ rfl; (with_reducible repeat (first | refine blk_drewN ?_ _ | refine blk_drew ?_ | refine blk_alloc ?_ _)); refine blk_put (cs := #[.int .i64 0, .int .i64 0, .bool false, .string (⟨#[]⟩ : ByteArray)]) ?_ 0 _ rfl; (with_reducible repeat (first | refine blk_drewN ?_ _ | refine blk_drew ?_ | refine blk_alloc ?_ _)); exact BK128.out) Tryd.underlying44 rfl (by kernel_rfl)) rfl ?_
        exact ⟨by first | rfl | (simp [errW_none, errW_some] <;> rfl) | (simp [*, errW_none, errW_some] <;> rfl), by repeat (first | (with_reducible first | exact HB.out | apply below_alloc | apply pw_below_drewN | apply below_drew1 | refine below_set ?_ GE128.out) | exact HB.out)⟩
      · replace c8 := Bool.eq_false_iff.mpr c8
        subst c8
        have H1 : (if 0 ≤ 2 then (if 2 ≤ (a0.size : Int) then ((spec_l01Of.f kj1 (a0.extract 0 2)).bind fun t130 => (if 2 < (a0.size : Int) then (spec_l03ReadDns.l0 kj1 a0 12 t130 0 (decide ((bt a0 2) ≥ 128)) (⟨#[]⟩ : ByteArray)) else (none))) else (none)) else (none)) = some (r1, r2, r3, r4, r5) := by rw [if_neg (show ¬ (false = true) by decide)] at H; exact H
        clear H
        have H := H1
        clear H1
        by_cases c10 : 0 ≤ 2
        · rw [if_pos c10] at H
          have c10b0 := eq_true c10
          have c10b1 : decide (0 ≤ 2) = true := decide_eq_true c10
          clear c10
          by_cases c11 : 2 ≤ (a0.size : Int)
          · rw [if_pos c11] at H
            have c11b0 := eq_true c11
            have c11b1 : decide (2 ≤ (a0.size : Int)) = true := decide_eq_true c11
            clear c11
            replace H := Option.bind_eq_some_iff.mp H
            obtain ⟨t130, A120, H⟩ := H
            replace H : (if 2 < (a0.size : Int) then (spec_l03ReadDns.l0 kj1 a0 12 t130 0 (decide ((bt a0 2) ≥ 128)) (⟨#[]⟩ : ByteArray)) else (none)) = some (r1, r2, r3, r4, r5) := H
            have A12 := Aside0.mk A120
            clear A120
            by_cases c13 : 2 < (a0.size : Int)
            · rw [if_pos c13] at H
              have c13b0 : decide (2 < (a0.size : Int)) = true := decide_eq_true c13
              have c13b1 : decide (2 < a0.size) = true := decide_eq_true (by omega)
              clear c13
              have H' := Aside0.mk H
              clear H
              try go_wp2
              have n0_ := Aside0.mk (blk_drew BK128.out)
              have n1_ := Aside0.mk (below_drew1 HB.out)
              clear BK128
              clear HB
              have BK128 := n0_
              have HB := n1_
              clear n0_ n1_
              have p14 : 0 ≤ (2 : Int) := (by omega)
              have q14 : 2 < a0.size := (by have : (2 : Int) < (a0.size : Int) := of_decide_eq_true (by first | (with_reducible assumption) | assumption); omega)
              have hx14 : ∀ h : 2 < a0.size, ((a0[2]'h).toNat : Int) = bt a0 2 := bt_at a0 2
              clear p14
              have qi14 : (2 < (a0.size : Int)) = True := eq_true (of_decide_eq_true (by first | (with_reducible assumption) | assumption))
              replace q14 := eq_true q14
              refine start_ (n := 9) (S := fun w' => True) (ds := []) #[false, false, false, false, false, false, false, false, false] (by kernel_rfl) rfl rfl trivial (fun hHeld => ?_); refine with_tabW spec_l03ReadDns.tab3 spec_l03ReadDns.bits3 (fun HT_ HW_ => ?_)
              generalize wc.drew = w15 at BK128 HB hHeld ⊢
              refine pure_ (i := 0) (N := some 17) (v := ?_) (a' := ?_) #[true, false, false, false, false, false, false, false, false] rfl rfl (any_of HT_.out (by kernel_rfl)) (fun _ _ _ h => h) (Or.inl ⟨by rfl, ?_⟩) ?_ ?_
              rotate_left
              · intro w'
                go_simp
                with_reducible rfl
              rotate_left
              · simp only [Act.put, List.setIfInBounds_toArray, List.set_cons_zero, List.set_cons_succ, i64_w, i32_w]
                rfl
              refine pure_ (i := 1) (N := some 18) (v := ?_) (a' := ?_) #[true, true, false, false, false, false, false, false, false] rfl rfl (any_of HT_.out (by kernel_rfl)) (fun _ _ _ h => h) (Or.inl ⟨by rfl, ?_⟩) ?_ ?_
              rotate_left
              · intro w'
                go_simp
                with_reducible rfl
              rotate_left
              · simp only [Act.put, List.setIfInBounds_toArray, List.set_cons_zero, List.set_cons_succ, i64_w, i32_w]
                rfl
              refine pure_ (i := 3) (N := some 20) (v := ?_) (a' := ?_) #[true, true, false, true, false, false, false, false, false] rfl rfl (any_of HT_.out (by kernel_rfl)) (fun _ _ _ h => h) (Or.inl ⟨by rfl, ?_⟩) ?_ ?_
              rotate_left
              · intro w'
                go_simp
                with_reducible rfl
              rotate_left
              · simp only [Act.put, List.setIfInBounds_toArray, List.set_cons_zero, List.set_cons_succ, i64_w, i32_w]
                rfl
              refine take_ (i := 4) (N := some 21) (v := ?_) (a' := ?_) #[true, true, false, true, true, false, false, false, false] rfl rfl (take_ofW HT_.out HW_.out (by kernel_rfl)) (fun _ _ _ h => h) (Or.inl ⟨by rfl, ?_⟩) hHeld ?_ ?_
              rotate_left
              · intro w' _
                go_simp
                with_reducible rfl
              rotate_left
              · simp only [Act.put, List.setIfInBounds_toArray, List.set_cons_zero, List.set_cons_succ, i64_w, i32_w]
                rfl
              refine pure_ (i := 5) (N := some 22) (v := ?_) (a' := ?_) #[true, true, false, true, true, true, false, false, false] rfl rfl (any_of HT_.out (by kernel_rfl)) (fun _ _ _ h => h) (Or.inl ⟨by rfl, ?_⟩) ?_ ?_
              rotate_left
              · intro w'
                go_simp
                with_reducible rfl
              rotate_left
              · simp only [Act.put, List.setIfInBounds_toArray, List.set_cons_zero, List.set_cons_succ, i64_w, i32_w]
                rfl
              refine join_ (σ := Nat) 1 #[true, true, true, true, true, true, true, true, false] (fun s_ => [(19, .int .i64 t130), (4, .pointer (some ⟨s_, 0, none⟩)), (23, .agg #[.int .i64 t130, .int .i64 0, .bool (decide ((bt a0 2) ≥ 128)), .string (⟨#[]⟩ : ByteArray)])]) (fun s_ w' => (w'.heap[gb128]? = some (.cells #[.int .i64 0, .int .i64 0, .bool false, .string (⟨#[]⟩ : ByteArray)] 44 (0, 0))) ∧ (w'.heap[s_]? = some (.cells #[.int .i64 0, .int .i64 0, .bool false, .string (⟨#[]⟩ : ByteArray)] 44 (0, 0))) ∧ (w.heap.size ≤ s_) ∧ (w.heap.size ≤ s_) ∧ (gb128 ≠ s_) ∧ (s_ ≠ gb128) ∧ (Below w.heap.size w w')) ?_ ?_
              rotate_left
              · intro hCont
                refine two_ (i := 2) (j := 7) (Ni := some 19) (Nj := some 4) #[true, true, true, true, true, true, false, false, false] #[true, true, false, true, true, true, false, true, false] rfl rfl rfl rfl (two_of HT_.out (by kernel_rfl)) (by decide) (by decide) (fun K hK => ?_) (fun K hK => ?_)
                · skip
                  refine goes_ Tryd.func84 (by kernel_rfl) rfl #[.string (a0.extract 0 2)] (by rfl) rfl rfl (by (try simp only [List.map_toArray, List.map_cons, List.map_nil]); first | done | rfl | (simp only [List.length_drop, List.length_take]; rfl)) ?_
                  with_reducible refine (spec_l01Of.calls kj1 (a0.extract 0 2) t130 _ A12.out).mono ?_
                  rintro e w' ⟨rfl, ⟨nd, rfl⟩⟩
                  refine ⟨_, rfl, ?_⟩
                  refine hK.out _ _ trivial (fun hHeld => ?_)
                  clear hK K
                  refine norm_ (a' := ?_) ?_ ?_
                  rotate_left
                  · show Act.put _ (some 19) _ = _
                    simp only [Act.put, List.setIfInBounds_toArray, List.set_cons_zero, List.set_cons_succ, i64_w, i32_w]
                    rfl
                  refine pure_ (i := 6) (N := some 23) (v := ?_) (a' := ?_) #[true, true, true, true, true, true, true, false, false] rfl rfl (any_of HT_.out (by kernel_rfl)) (fun _ _ _ h => h) (Or.inl ⟨by rfl, ?_⟩) ?_ ?_
                  rotate_left
                  · intro w'
                    go_simp
                    with_reducible rfl
                  rotate_left
                  · simp only [Act.put, List.setIfInBounds_toArray, List.set_cons_zero, List.set_cons_succ, i64_w, i32_w]
                    rfl
                  refine one_ (i := 7) (N := some 4) #[true, true, true, true, true, true, true, true, false] rfl rfl (one_of HT_.out (by kernel_rfl)) (by decide) (fun K hK => ?_)
                  refine box_step ?hg (N := 4) ?hd (cs := #[.int .i64 0, .int .i64 0, .bool false, .string (⟨#[]⟩ : ByteArray)]) (t := 44) ?hr ?_; (case hd => rfl); (case hg => rfl); (case hr => first | (go_simp; done) | (go_simp; rfl))
                  intro gb131 hg w16 hbox hb
                  have n0_ := Aside0.mk (blk_below (g := gb128) (o := .cells #[.int .i64 0, .int .i64 0, .bool false, .string (⟨#[]⟩ : ByteArray)] 44 (0, 0)) (by (with_reducible repeat (first | refine blk_drewN ?_ _ | refine blk_drew ?_ | refine blk_alloc ?_ _)); exact BK128.out) hb)
                  have n1_ := Aside0.mk (below_step (by repeat (first | (with_reducible first | exact HB.out | apply below_alloc | apply pw_below_drewN | apply below_drew1 | refine below_set ?_ GE128.out) | exact HB.out)) hb)
                  have n2_ := Aside0.mk (hbox)
                  have n3_ := Aside0.mk ((by rw [hg]; exact (below_size (by repeat (first | (with_reducible first | exact HB.out | apply below_alloc | apply pw_below_drewN | apply below_drew1 | refine below_set ?_ GE128.out) | exact HB.out))) : w.heap.size ≤ gb131))
                  have n4_ := Aside0.mk ((by rw [hg]; exact (below_size (by repeat (first | (with_reducible first | exact HB.out | apply below_alloc | apply pw_below_drewN | apply below_drew1 | refine below_set ?_ GE128.out) | exact HB.out))) : w.heap.size ≤ gb131))
                  have n5_ := Aside0.mk ((by rw [hg]; exact Nat.ne_of_lt (blk_lt (g := gb128) (o := .cells #[.int .i64 0, .int .i64 0, .bool false, .string (⟨#[]⟩ : ByteArray)] 44 (0, 0)) (by (with_reducible repeat (first | refine blk_drewN ?_ _ | refine blk_drew ?_ | refine blk_alloc ?_ _)); exact BK128.out)) : gb128 ≠ gb131))
                  have n6_ := Aside0.mk ((by rw [hg]; exact Nat.ne_of_gt (blk_lt (g := gb128) (o := .cells #[.int .i64 0, .int .i64 0, .bool false, .string (⟨#[]⟩ : ByteArray)] 44 (0, 0)) (by (with_reducible repeat (first | refine blk_drewN ?_ _ | refine blk_drew ?_ | refine blk_alloc ?_ _)); exact BK128.out)) : gb131 ≠ gb128))
                  clear BK128
                  clear HB
                  have BK128 := n0_
                  have HB := n1_
                  have BK131 := n2_
                  have GW131 := n3_
                  have GE131 := n4_
                  have NB128_131 := n5_
                  have NB131_128 := n6_
                  clear n0_ n1_ n2_ n3_ n4_ n5_ n6_
                  clear hb hbox hg
                  refine hK.out _ _ trivial (fun hHeld => ?_)
                  clear hK K
                  refine norm_ (a' := ?_) ?_ ?_
                  rotate_left
                  · show Act.put _ (some 4) _ = _
                    simp only [Act.put, List.setIfInBounds_toArray, List.set_cons_zero, List.set_cons_succ, i64_w, i32_w]
                    rfl
                  exact norm_ (by simp only [putAll, Act.put, List.setIfInBounds_toArray, List.set_cons_zero, List.set_cons_succ]) (hCont (gb131) _ ⟨(by (with_reducible repeat (first | refine blk_drewN ?_ _ | refine blk_drew ?_ | refine blk_alloc ?_ _)); exact BK128.out), (by (with_reducible repeat (first | refine blk_drewN ?_ _ | refine blk_drew ?_ | refine blk_alloc ?_ _)); exact BK131.out), GW131.out, GE131.out, NB128_131.out, NB131_128.out, (by repeat (first | (with_reducible first | exact HB.out | apply below_alloc | apply pw_below_drewN | apply below_drew1 | refine below_set ?_ GE128.out | refine below_set ?_ GE131.out) | exact HB.out))⟩)
                · skip
                  refine box_step ?hg (N := 4) ?hd (cs := #[.int .i64 0, .int .i64 0, .bool false, .string (⟨#[]⟩ : ByteArray)]) (t := 44) ?hr ?_; (case hd => rfl); (case hg => rfl); (case hr => first | (go_simp; done) | (go_simp; rfl))
                  intro gb131 hg w16 hbox hb
                  have n0_ := Aside0.mk (blk_below (g := gb128) (o := .cells #[.int .i64 0, .int .i64 0, .bool false, .string (⟨#[]⟩ : ByteArray)] 44 (0, 0)) (by (with_reducible repeat (first | refine blk_drewN ?_ _ | refine blk_drew ?_ | refine blk_alloc ?_ _)); exact BK128.out) hb)
                  have n1_ := Aside0.mk (below_step (by repeat (first | (with_reducible first | exact HB.out | apply below_alloc | apply pw_below_drewN | apply below_drew1 | refine below_set ?_ GE128.out) | exact HB.out)) hb)
                  have n2_ := Aside0.mk (hbox)
                  have n3_ := Aside0.mk ((by rw [hg]; exact (below_size (by repeat (first | (with_reducible first | exact HB.out | apply below_alloc | apply pw_below_drewN | apply below_drew1 | refine below_set ?_ GE128.out) | exact HB.out))) : w.heap.size ≤ gb131))
                  have n4_ := Aside0.mk ((by rw [hg]; exact (below_size (by repeat (first | (with_reducible first | exact HB.out | apply below_alloc | apply pw_below_drewN | apply below_drew1 | refine below_set ?_ GE128.out) | exact HB.out))) : w.heap.size ≤ gb131))
                  have n5_ := Aside0.mk ((by rw [hg]; exact Nat.ne_of_lt (blk_lt (g := gb128) (o := .cells #[.int .i64 0, .int .i64 0, .bool false, .string (⟨#[]⟩ : ByteArray)] 44 (0, 0)) (by (with_reducible repeat (first | refine blk_drewN ?_ _ | refine blk_drew ?_ | refine blk_alloc ?_ _)); exact BK128.out)) : gb128 ≠ gb131))
                  have n6_ := Aside0.mk ((by rw [hg]; exact Nat.ne_of_gt (blk_lt (g := gb128) (o := .cells #[.int .i64 0, .int .i64 0, .bool false, .string (⟨#[]⟩ : ByteArray)] 44 (0, 0)) (by (with_reducible repeat (first | refine blk_drewN ?_ _ | refine blk_drew ?_ | refine blk_alloc ?_ _)); exact BK128.out)) : gb131 ≠ gb128))
                  clear BK128
                  clear HB
                  have BK128 := n0_
                  have HB := n1_
                  have BK131 := n2_
                  have GW131 := n3_
                  have GE131 := n4_
                  have NB128_131 := n5_
                  have NB131_128 := n6_
                  clear n0_ n1_ n2_ n3_ n4_ n5_ n6_
                  clear hb hbox hg
                  refine hK.out _ _ trivial (fun hHeld => ?_)
                  clear hK K
                  refine norm_ (a' := ?_) ?_ ?_
                  rotate_left
                  · show Act.put _ (some 4) _ = _
                    simp only [Act.put, List.setIfInBounds_toArray, List.set_cons_zero, List.set_cons_succ, i64_w, i32_w]
                    rfl
                  refine one_ (i := 2) (N := some 19) #[true, true, true, true, true, true, false, true, false] rfl rfl (one_of HT_.out (by kernel_rfl)) (by decide) (fun K hK => ?_)
                  refine goes_ Tryd.func84 (by kernel_rfl) rfl #[.string (a0.extract 0 2)] (by rfl) rfl rfl (by (try simp only [List.map_toArray, List.map_cons, List.map_nil]); first | done | rfl | (simp only [List.length_drop, List.length_take]; rfl)) ?_
                  with_reducible refine (spec_l01Of.calls kj1 (a0.extract 0 2) t130 _ A12.out).mono ?_
                  rintro e w' ⟨rfl, ⟨nd, rfl⟩⟩
                  refine ⟨_, rfl, ?_⟩
                  refine hK.out _ _ trivial (fun hHeld => ?_)
                  clear hK K
                  refine norm_ (a' := ?_) ?_ ?_
                  rotate_left
                  · show Act.put _ (some 19) _ = _
                    simp only [Act.put, List.setIfInBounds_toArray, List.set_cons_zero, List.set_cons_succ, i64_w, i32_w]
                    rfl
                  refine pure_ (i := 6) (N := some 23) (v := ?_) (a' := ?_) #[true, true, true, true, true, true, true, true, false] rfl rfl (any_of HT_.out (by kernel_rfl)) (fun _ _ _ h => h) (Or.inl ⟨by rfl, ?_⟩) ?_ ?_
                  rotate_left
                  · intro w'
                    go_simp
                    with_reducible rfl
                  rotate_left
                  · simp only [Act.put, List.setIfInBounds_toArray, List.set_cons_zero, List.set_cons_succ, i64_w, i32_w]
                    rfl
                  exact norm_ (by simp only [putAll, Act.put, List.setIfInBounds_toArray, List.set_cons_zero, List.set_cons_succ]) (hCont (gb131) _ ⟨(by (with_reducible repeat (first | refine blk_drewN ?_ _ | refine blk_drew ?_ | refine blk_alloc ?_ _)); exact BK128.out), (by (with_reducible repeat (first | refine blk_drewN ?_ _ | refine blk_drew ?_ | refine blk_alloc ?_ _)); exact BK131.out), GW131.out, GE131.out, NB128_131.out, NB131_128.out, (by repeat (first | (with_reducible first | exact HB.out | apply below_alloc | apply pw_below_drewN | apply below_drew1 | refine below_set ?_ GE128.out | refine below_set ?_ GE131.out) | exact HB.out))⟩)
              rintro gb131 w17 ⟨h0_, h1_, h2_, h3_, h4_, h5_, h6_⟩
              have n0_ : Aside0 (w17.heap[gb128]? = some (.cells #[.int .i64 0, .int .i64 0, .bool false, .string (⟨#[]⟩ : ByteArray)] 44 (0, 0))) := ⟨h0_⟩
              have n1_ : Aside0 (w17.heap[gb131]? = some (.cells #[.int .i64 0, .int .i64 0, .bool false, .string (⟨#[]⟩ : ByteArray)] 44 (0, 0))) := ⟨h1_⟩
              have n2_ : Aside0 (w.heap.size ≤ gb131) := ⟨h2_⟩
              have n3_ : Aside0 (w.heap.size ≤ gb131) := ⟨h3_⟩
              have n4_ : Aside0 (gb128 ≠ gb131) := ⟨h4_⟩
              have n5_ : Aside0 (gb131 ≠ gb128) := ⟨h5_⟩
              have n6_ : Aside0 (Below w.heap.size w w17) := ⟨h6_⟩
              clear BK128
              clear HB
              clear h0_ h1_ h2_ h3_ h4_ h5_ h6_
              have BK128 := n0_
              have BK131 := n1_
              have GW131 := n2_
              have GE131 := n3_
              have NB128_131 := n4_
              have NB131_128 := n5_
              have HB := n6_
              clear n0_ n1_ n2_ n3_ n4_ n5_ n6_
              have hHeld := trivial
              refine norm_ (a' := ?_) ?_ ?_
              rotate_left
              · simp only [putAll, Act.put, List.setIfInBounds_toArray, List.set_cons_zero, List.set_cons_succ]
                rfl
              refine one_ (i := 8) (N := none) #[true, true, true, true, true, true, true, true, true] rfl rfl (one_of HT_.out (by kernel_rfl)) (by decide) (fun K hK => ?_)
              have hs18 : w17.cell? ⟨gb131, 0, none⟩ = some (.int .i64 0) := (blk_cell BK131.out 0).trans rfl
              have hfs18 := blk_frozen BK131.out 0
              have hns18_0 := NB128_131.out
              have hms18_0 := NB131_128.out
              have hs19 : w17.cell? ⟨gb131, 1, none⟩ = some (.int .i64 0) := (blk_cell BK131.out 1).trans rfl
              have hfs19 := blk_frozen BK131.out 1
              have hns19_0 := NB128_131.out
              have hms19_0 := NB131_128.out
              have hs20 : w17.cell? ⟨gb131, 2, none⟩ = some (.bool false) := (blk_cell BK131.out 2).trans rfl
              have hfs20 := blk_frozen BK131.out 2
              have hns20_0 := NB128_131.out
              have hms20_0 := NB131_128.out
              have hs21 : w17.cell? ⟨gb131, 3, none⟩ = some (.string (⟨#[]⟩ : ByteArray)) := (blk_cell BK131.out 3).trans rfl
              have hfs21 := blk_frozen BK131.out 3
              have hns21_0 := NB128_131.out
              have hms21_0 := NB131_128.out
              refine skip_ (w1 := ?_) (by rfl) rfl ?_ ?_
              rotate_left
              · go_simp
                rfl
              refine hK.out _ _ trivial (fun hHeld => ?_)
              clear hK K
              refine done_ (done_of HT_.out (by kernel_rfl)) ?_
              try go_wp2
              go_loopg [5] kj1 (fun kq v5 w' => ∃ (x5_2 : Int) (x129000_2 : Int) (x129001_2 : Int) (x129002_2 : Bool) (x129003_2 : ByteArray) (x132003_2 : ByteArray), v5 = .int .i64 x5_2 ∧ Aside0 (spec_l03ReadDns.l0 kq a0 x5_2 t130 0 (decide ((bt a0 2) ≥ 128)) x132003_2 = some (r1, r2, r3, r4, r5)) ∧ Aside0 (kq ≤ kj1) ∧ Aside0 (w'.heap[gb128]? = some (.cells #[.int .i64 x129000_2, .int .i64 x129001_2, .bool x129002_2, .string x129003_2] 44 (0, 0))) ∧ Aside0 (w'.heap[gb131]? = some (.cells #[.int .i64 t130, .int .i64 0, .bool (decide ((bt a0 2) ≥ 128)), .string x132003_2] 44 (0, 0))) ∧ Aside0 (Below w.heap.size w w'))
              case atStart => exact ⟨(12), (0), (0), (false), ((⟨#[]⟩ : ByteArray)), ((⟨#[]⟩ : ByteArray)), (by first | rfl | (simp; done) | (simp [*]; done)), H', ⟨Nat.le_refl _⟩, ⟨by (with_reducible repeat (first | refine blk_drewN ?_ _ | refine blk_drew ?_ | refine blk_alloc ?_ _)); refine blk_far ?_ NB128_131.out _; (with_reducible repeat (first | refine blk_drewN ?_ _ | refine blk_drew ?_ | refine blk_alloc ?_ _)); refine blk_far ?_ NB128_131.out _; (with_reducible repeat (first | refine blk_drewN ?_ _ | refine blk_drew ?_ | refine blk_alloc ?_ _)); refine blk_far ?_ NB128_131.out _; (with_reducible repeat (first | refine blk_drewN ?_ _ | refine blk_drew ?_ | refine blk_alloc ?_ _)); refine blk_far ?_ NB128_131.out _; (with_reducible repeat (first | refine blk_drewN ?_ _ | refine blk_drew ?_ | refine blk_alloc ?_ _)); exact BK128.out⟩, ⟨by (with_reducible repeat (first | refine blk_drewN ?_ _ | refine blk_drew ?_ | refine blk_alloc ?_ _)); refine blk_put (cs := #[.int .i64 t130, .int .i64 0, .bool (decide ((bt a0 2) ≥ 128)), .string (⟨#[]⟩ : ByteArray)]) ?_ 3 _ rfl; (with_reducible repeat (first | refine blk_drewN ?_ _ | refine blk_drew ?_ | refine blk_alloc ?_ _)); refine blk_put (cs := #[.int .i64 t130, .int .i64 0, .bool false, .string (⟨#[]⟩ : ByteArray)]) ?_ 2 _ rfl; (with_reducible repeat (first | refine blk_drewN ?_ _ | refine blk_drew ?_ | refine blk_alloc ?_ _)); refine blk_put (cs := #[.int .i64 t130, .int .i64 0, .bool false, .string (⟨#[]⟩ : ByteArray)]) ?_ 1 _ rfl; (with_reducible repeat (first | refine blk_drewN ?_ _ | refine blk_drew ?_ | refine blk_alloc ?_ _)); refine blk_put (cs := #[.int .i64 0, .int .i64 0, .bool false, .string (⟨#[]⟩ : ByteArray)]) ?_ 0 _ rfl; (with_reducible repeat (first | refine blk_drewN ?_ _ | refine blk_drew ?_ | refine blk_alloc ?_ _)); exact BK131.out⟩, ⟨by repeat (first | (with_reducible first | exact HB.out | apply below_alloc | apply pw_below_drewN | apply below_drew1 | refine below_set ?_ GE128.out | refine below_set ?_ GE131.out) | exact HB.out)⟩⟩
              case round =>
                clear H'
                try clear c1
                try clear p1
                try clear q1
                try clear hx1
                try clear qi1
                try clear p2
                try clear c4
                try clear c4b0
                try clear c4b1
                try clear c5
                try clear c5b0
                try clear c5b1
                try clear c6
                try clear c6b0
                try clear c6b1
                try clear c8
                try clear c10
                try clear c10b0
                try clear c10b1
                try clear c11
                try clear c11b0
                try clear c11b1
                try clear c13
                try clear c13b0
                try clear c13b1
                try clear p14
                try clear q14
                try clear hx14
                try clear qi14
                try clear hcz9_0
                try clear hcz9_1
                try clear hcz9_2
                try clear hcz9_3
                try clear hfz9_0
                try clear hfz9_1
                try clear hfz9_2
                try clear hfz9_3
                try clear p14
                try clear p2
                try clear q14
                obtain ⟨x5_2, x129000_2, x129001_2, x129002_2, x129003_2, x132003_2, rfl, HA, HK2, BK128, BK131, HB⟩ := hrel
                cases gk with
                | zero => exact absurd HA.out (by simp [spec_l03ReadDns.l0])
                | succ k2 =>
                  have H := HA.out
                  clear HA
                  simp only [spec_l03ReadDns.l0] at H
                  by_cases c22 : x5_2 ≥ (a0.size : Int)
                  · rw [if_pos c22] at H
                    have c22b0 : decide ((a0.size : Int) ≤ x5_2) = true := decide_eq_true c22
                    clear c22
                    simp only [Option.some.injEq, Prod.mk.injEq] at H
                    obtain ⟨rfl, rfl, rfl, rfl, rfl⟩ := H
                    have hnb23 := NB128_131.out
                    have hnc23 := NB131_128.out
                    have hcz24_0 : wr.cell? ⟨gb128, 0, none⟩ = some (.int .i64 x129000_2) := (blk_cell BK128.out 0).trans rfl
                    have hcz24_1 : wr.cell? ⟨gb128, 1, none⟩ = some (.int .i64 x129001_2) := (blk_cell BK128.out 1).trans rfl
                    have hcz24_2 : wr.cell? ⟨gb128, 2, none⟩ = some (.bool x129002_2) := (blk_cell BK128.out 2).trans rfl
                    have hcz24_3 : wr.cell? ⟨gb128, 3, none⟩ = some (.string x129003_2) := (blk_cell BK128.out 3).trans rfl
                    have hfz24_0 := blk_frozen BK128.out 0
                    have hfz24_1 := blk_frozen BK128.out 1
                    have hfz24_2 := blk_frozen BK128.out 2
                    have hfz24_3 := blk_frozen BK128.out 3
                    go_wp2
                    refine bodyPost_ret (results_ct rfl _ _ gb128 44 #[.int .i64 0, .int .i64 0, .bool false, .string (⟨#[]⟩ : ByteArray)] (0, 0) _ rfl (by (with_reducible repeat (first | refine blk_drewN ?_ _ | refine blk_drew ?_ | refine blk_alloc ?_ _)); refine blk_put (cs := #[.int .i64 0, .int .i64 0, .bool false, .string x129003_2]) ?_ 3 _ rfl; (with_reducible repeat (first | refine blk_drewN ?_ _ | refine blk_drew ?_ | refine blk_alloc ?_ _)); refine blk_put (cs := #[.int .i64 0, .int .i64 0, .bool x129002_2, .string x129003_2]) ?_ 2 _ rfl; (with_reducible repeat (first | refine blk_drewN ?_ _ | refine blk_drew ?_ | refine blk_alloc ?_ _)); refine blk_put (cs := #[.int .i64 0, .int .i64 x129001_2, .bool x129002_2, .string x129003_2]) ?_ 1 _ rfl; (with_reducible repeat (first | refine blk_drewN ?_ _ | refine blk_drew ?_ | refine blk_alloc ?_ _)); refine blk_put (cs := #[.int .i64 x129000_2, .int .i64 x129001_2, .bool x129002_2, .string x129003_2]) ?_ 0 _ rfl; (with_reducible repeat (first | refine blk_drewN ?_ _ | refine blk_drew ?_ | refine blk_alloc ?_ _)); exact BK128.out) Tryd.underlying44 rfl (by kernel_rfl)) rfl ?_
                    exact ⟨by first | rfl | (simp [errW_none, errW_some] <;> rfl) | (simp [*, errW_none, errW_some] <;> rfl), by repeat (first | (with_reducible first | exact HB.out | apply below_alloc | apply pw_below_drewN | apply below_drew1 | refine below_set ?_ GE128.out | refine below_set ?_ GE131.out) | exact HB.out)⟩
                  · rw [if_neg c22] at H
                    have c22b0 : decide ((a0.size : Int) ≤ x5_2) = false := decide_eq_false c22
                    clear c22
                    by_cases c25 : 0 ≤ x5_2
                    · rw [if_pos c25] at H
                      have c25b0 : decide (0 ≤ x5_2) = true := decide_eq_true c25
                      clear c25
                      by_cases c26 : x5_2 < (a0.size : Int)
                      · rw [if_pos c26] at H
                        have c26b0 : decide (x5_2 < (a0.size : Int)) = true := decide_eq_true c26
                        clear c26
                        by_cases c28 : (wrap64 (bt a0 x5_2)) = 0
                        · rw [if_pos c28] at H
                          have c28b0 : ((wrap64 (bt a0 x5_2)) == 0) = true := beq_iff_eq.mpr c28
                          have c28b1 : ((wrap64 (bt a0 x5_2)) != 0) = false := bne_eq_false_iff_eq.mpr c28
                          clear c28
                          have HC29 := Aside0.mk H
                          clear H
                          have p27 : 0 ≤ (x5_2 : Int) := of_decide_eq_true (by first | (with_reducible assumption) | assumption)
                          have q27 : x5_2 < (a0.size : Int) := of_decide_eq_true (by first | (with_reducible assumption) | assumption)
                          have hx27 := bt_at a0 x5_2
                          replace p27 := eq_true p27
                          replace q27 := eq_true q27
                          go_upto_region 16 with (fail)
                          go_cut [82] (fun v82 wc => ∃ (kq : Nat) (x82_28 : Bool), v82 = .bool x82_28 ∧ Aside0 (spec_l03ReadDns.j3 kq a0 (wrap64 (x5_2 + 1)) x82_28 t130 0 (decide ((bt a0 2) ≥ 128)) x132003_2 = some (r1, r2, r3, r4, r5)) ∧ Aside0 (kq ≤ k2) ∧ Aside0 (wc.heap[gb128]? = some (.cells #[.int .i64 x129000_2, .int .i64 x129001_2, .bool x129002_2, .string x129003_2] 44 (0, 0))) ∧ Aside0 (wc.heap[gb131]? = some (.cells #[.int .i64 t130, .int .i64 0, .bool (decide ((bt a0 2) ≥ 128)), .string x132003_2] 44 (0, 0))) ∧ Aside0 (Below w.heap.size w wc))
                          case first =>
                            have H := HC29.out
                            clear HC29
                            by_cases c30 : (wrap64 ((wrap64 (x5_2 + 1)) + 4)) > (a0.size : Int)
                            · rw [if_pos c30] at H
                              have c30b0 : decide ((a0.size : Int) < (wrap64 ((wrap64 (x5_2 + 1)) + 4))) = true := decide_eq_true c30
                              clear c30
                              (first | rw [c30b0] | (simp only [i64_w, i32_w]; rw [c30b0]) | skip)
                              have H' := Aside0.mk H
                              clear H
                              go_wp2
                              go_meet
                              case rel => exact ⟨_, (true), (by first | rfl | (simp; done) | (simp [*]; done)), H', ⟨by have := HJ1.out; have := HK2.out; first | omega | exact Nat.le_refl _⟩, ⟨by (with_reducible repeat (first | refine blk_drewN ?_ _ | refine blk_drew ?_ | refine blk_alloc ?_ _)); exact BK128.out⟩, ⟨by (with_reducible repeat (first | refine blk_drewN ?_ _ | refine blk_drew ?_ | refine blk_alloc ?_ _)); exact BK131.out⟩, ⟨by repeat (first | (with_reducible first | exact HB.out | apply below_alloc | apply pw_below_drewN | apply below_drew1 | refine below_set ?_ GE128.out | refine below_set ?_ GE131.out) | exact HB.out)⟩⟩
                            · rw [if_neg c30] at H
                              have c30b0 : decide ((a0.size : Int) < (wrap64 ((wrap64 (x5_2 + 1)) + 4))) = false := decide_eq_false c30
                              clear c30
                              (first | rw [c30b0] | (simp only [i64_w, i32_w]; rw [c30b0]) | skip)
                              obtain ⟨ji31, hji31⟩ : ∃ j_ : Int, (wrap64 ((wrap64 (x5_2 + 1)) + 2)) = j_ := ⟨_, rfl⟩
                              replace H : (if 0 ≤ (ji31) then (if (ji31) ≤ (wrap64 ((wrap64 (x5_2 + 1)) + 4)) then (if (wrap64 ((wrap64 (x5_2 + 1)) + 4)) ≤ (a0.size : Int) then ((spec_l01Of.f k2 (a0.extract ((ji31) : Int).toNat ((wrap64 ((wrap64 (x5_2 + 1)) + 4)) : Int).toNat)).bind fun t132 => (spec_l03ReadDns.j3 k2 a0 (wrap64 (x5_2 + 1)) (t132 != 1) t130 0 (decide ((bt a0 2) ≥ 128)) x132003_2)) else (none)) else (none)) else (none)) = some (r1, r2, r3, r4, r5) := by first | (rw [hji31] at H; exact H) | (simp only [hji31] at H ⊢; exact H)
                              have hji31w : (IntKind.i64.wrap ((wrap64 (x5_2 + 1)) + 2)) = ji31 := (i64_w _).trans hji31
                              by_cases c32 : 0 ≤ (ji31)
                              · rw [if_pos c32] at H
                                have c32b0 := eq_true c32
                                have c32b1 : decide (0 ≤ (ji31)) = true := decide_eq_true c32
                                clear c32
                                by_cases c33 : (ji31) ≤ (wrap64 ((wrap64 (x5_2 + 1)) + 4))
                                · rw [if_pos c33] at H
                                  have c33b0 := eq_true c33
                                  have c33b1 : decide ((ji31) ≤ (wrap64 ((wrap64 (x5_2 + 1)) + 4))) = true := decide_eq_true c33
                                  by_cases c34 : (wrap64 ((wrap64 (x5_2 + 1)) + 4)) ≤ (a0.size : Int)
                                  · rw [if_pos c34] at H
                                    have c34b0 := eq_true c34
                                    have c34b1 : decide ((wrap64 ((wrap64 (x5_2 + 1)) + 4)) ≤ (a0.size : Int)) = true := decide_eq_true c34
                                    replace H := Option.bind_eq_some_iff.mp H
                                    obtain ⟨t132, A350, H⟩ := H
                                    replace H : (spec_l03ReadDns.j3 k2 a0 (wrap64 (x5_2 + 1)) (t132 != 1) t130 0 (decide ((bt a0 2) ≥ 128)) x132003_2) = some (r1, r2, r3, r4, r5) := H
                                    have A35 := Aside0.mk A350
                                    clear A350
                                    have H' := Aside0.mk H
                                    clear H
                                    go_wp2_with (first | (go_at_call 84; (with_reducible refine (spec_l01Of.calls k2 (a0.extract ((ji31) : Int).toNat ((wrap64 ((wrap64 (x5_2 + 1)) + 4)) : Int).toNat) t132 _ A35.out).mono ?_); rintro e w' ⟨rfl, ⟨nd, rfl⟩⟩))
                                    go_meet
                                    case rel => exact ⟨_, ((t132 != 1)), (by first | rfl | (simp; done) | (simp [*]; done)), (by first | exact H' | (simp only [hji31]; exact H')), ⟨by have := HJ1.out; have := HK2.out; first | omega | exact Nat.le_refl _⟩, ⟨by (with_reducible repeat (first | refine blk_drewN ?_ _ | refine blk_drew ?_ | refine blk_alloc ?_ _)); exact BK128.out⟩, ⟨by (with_reducible repeat (first | refine blk_drewN ?_ _ | refine blk_drew ?_ | refine blk_alloc ?_ _)); exact BK131.out⟩, ⟨by repeat (first | (with_reducible first | exact HB.out | apply below_alloc | apply pw_below_drewN | apply below_drew1 | refine below_set ?_ GE128.out | refine below_set ?_ GE131.out) | exact HB.out)⟩⟩
                                  · rw [if_neg c34] at H
                                    exact absurd H (by simp)
                                · rw [if_neg c33] at H
                                  exact absurd H (by simp)
                              · rw [if_neg c32] at H
                                exact absurd H (by simp)
                          case rest =>
                            clear HC29
                            try clear c1
                            try clear p1
                            try clear q1
                            try clear hx1
                            try clear qi1
                            try clear c2
                            try clear p2
                            try clear q2
                            try clear hx2
                            try clear c3
                            try clear c4
                            try clear c4b0
                            try clear c4b1
                            try clear c5
                            try clear c5b0
                            try clear c5b1
                            try clear c6
                            try clear c6b0
                            try clear c6b1
                            try clear p6
                            try clear c8
                            try clear c10
                            try clear c10b0
                            try clear c10b1
                            try clear c11
                            try clear c11b0
                            try clear c11b1
                            try clear c13
                            try clear c13b0
                            try clear c13b1
                            try clear p14
                            try clear q14
                            try clear hx14
                            try clear qi14
                            try clear c22
                            try clear c22b0
                            try clear c23
                            try clear c25
                            try clear c25b0
                            try clear c26
                            try clear c26b0
                            try clear p27
                            try clear q27
                            try clear hx27
                            try clear c28
                            try clear c28b0
                            try clear c28b1
                            try clear c30
                            try clear c30b0
                            try clear c32
                            try clear c32b0
                            try clear c32b1
                            try clear c33
                            try clear c33b0
                            try clear c33b1
                            try clear c34
                            try clear c34b0
                            try clear c34b1
                            try clear hcz24_0
                            try clear hcz24_1
                            try clear hcz24_2
                            try clear hcz24_3
                            try clear hcz9_0
                            try clear hcz9_1
                            try clear hcz9_2
                            try clear hcz9_3
                            try clear hfz24_0
                            try clear hfz24_1
                            try clear hfz24_2
                            try clear hfz24_3
                            try clear hfz9_0
                            try clear hfz9_1
                            try clear hfz9_2
                            try clear hfz9_3
                            try clear p1
                            try clear p14
                            try clear p2
                            try clear p27
                            try clear q1
                            try clear q14
                            try clear q27
                            obtain ⟨kq, x82_28, rfl, HA, HJ28, BK128, BK131, HB⟩ := hcut
                            cases kq with
                            | zero => exact absurd HA.out (by simp [spec_l03ReadDns.j3])
                            | succ kj28 =>
                              have H := HA.out
                              clear HA
                              simp only [spec_l03ReadDns.j3] at H
                              by_cases c36 : x82_28 = true
                              · subst c36
                                have H1 : (some (0, 0, false, (⟨#[]⟩ : ByteArray), 3)) = some (r1, r2, r3, r4, r5) := by rw [if_pos rfl] at H; exact H
                                clear H
                                have H := H1
                                clear H1
                                simp only [Option.some.injEq, Prod.mk.injEq] at H
                                obtain ⟨rfl, rfl, rfl, rfl, rfl⟩ := H
                                have hnb37 := NB128_131.out
                                have hnc37 := NB131_128.out
                                have hcz38_0 : wc.cell? ⟨gb128, 0, none⟩ = some (.int .i64 x129000_2) := (blk_cell BK128.out 0).trans rfl
                                have hcz38_1 : wc.cell? ⟨gb128, 1, none⟩ = some (.int .i64 x129001_2) := (blk_cell BK128.out 1).trans rfl
                                have hcz38_2 : wc.cell? ⟨gb128, 2, none⟩ = some (.bool x129002_2) := (blk_cell BK128.out 2).trans rfl
                                have hcz38_3 : wc.cell? ⟨gb128, 3, none⟩ = some (.string x129003_2) := (blk_cell BK128.out 3).trans rfl
                                have hfz38_0 := blk_frozen BK128.out 0
                                have hfz38_1 := blk_frozen BK128.out 1
                                have hfz38_2 := blk_frozen BK128.out 2
                                have hfz38_3 := blk_frozen BK128.out 3
                                go_wp2
                                refine bodyPost_ret (results_ct rfl _ _ gb128 44 #[.int .i64 0, .int .i64 0, .bool false, .string (⟨#[]⟩ : ByteArray)] (0, 0) _ rfl (by (with_reducible repeat (first | refine blk_drewN ?_ _ | refine blk_drew ?_ | refine blk_alloc ?_ _)); refine blk_put (cs := #[.int .i64 0, .int .i64 0, .bool false, .string x129003_2]) ?_ 3 _ rfl; (with_reducible repeat (first | refine blk_drewN ?_ _ | refine blk_drew ?_ | refine blk_alloc ?_ _)); refine blk_put (cs := #[.int .i64 0, .int .i64 0, .bool x129002_2, .string x129003_2]) ?_ 2 _ rfl; (with_reducible repeat (first | refine blk_drewN ?_ _ | refine blk_drew ?_ | refine blk_alloc ?_ _)); refine blk_put (cs := #[.int .i64 0, .int .i64 x129001_2, .bool x129002_2, .string x129003_2]) ?_ 1 _ rfl; (with_reducible repeat (first | refine blk_drewN ?_ _ | refine blk_drew ?_ | refine blk_alloc ?_ _)); refine blk_put (cs := #[.int .i64 x129000_2, .int .i64 x129001_2, .bool x129002_2, .string x129003_2]) ?_ 0 _ rfl; (with_reducible repeat (first | refine blk_drewN ?_ _ | refine blk_drew ?_ | refine blk_alloc ?_ _)); exact BK128.out) Tryd.underlying44 rfl (by kernel_rfl)) rfl ?_
                                exact ⟨by first | rfl | (simp [errW_none, errW_some] <;> rfl) | (simp [*, errW_none, errW_some] <;> rfl), by repeat (first | (with_reducible first | exact HB.out | apply below_alloc | apply pw_below_drewN | apply below_drew1 | refine below_set ?_ GE128.out | refine below_set ?_ GE131.out) | exact HB.out)⟩
                              · replace c36 := Bool.eq_false_iff.mpr c36
                                subst c36
                                have H1 : (if 0 ≤ (wrap64 (x5_2 + 1)) then (if (wrap64 (x5_2 + 1)) ≤ (wrap64 ((wrap64 (x5_2 + 1)) + 2)) then (if (wrap64 ((wrap64 (x5_2 + 1)) + 2)) ≤ (a0.size : Int) then ((spec_l01Of.f kj28 (a0.extract ((wrap64 (x5_2 + 1)) : Int).toNat ((wrap64 ((wrap64 (x5_2 + 1)) + 2)) : Int).toNat)).bind fun t133 => ((spec_l03Dns.f kj28 t130 t133 (decide ((bt a0 2) ≥ 128)) x132003_2).bind fun t134 => (if t134 = true then (some (t130, t133, (decide ((bt a0 2) ≥ 128)), x132003_2, 0)) else (some (0, 0, false, (⟨#[]⟩ : ByteArray), 3))))) else (none)) else (none)) else (none)) = some (r1, r2, r3, r4, r5) := by rw [if_neg (show ¬ (false = true) by decide)] at H; exact H
                                clear H
                                have H := H1
                                clear H1
                                obtain ⟨ji39, hji39⟩ : ∃ j_ : Int, (wrap64 (x5_2 + 1)) = j_ := ⟨_, rfl⟩
                                replace H : (if 0 ≤ (ji39) then (if (ji39) ≤ (wrap64 ((ji39) + 2)) then (if (wrap64 ((ji39) + 2)) ≤ (a0.size : Int) then ((spec_l01Of.f kj28 (a0.extract ((ji39) : Int).toNat ((wrap64 ((ji39) + 2)) : Int).toNat)).bind fun t133 => ((spec_l03Dns.f kj28 t130 t133 (decide ((bt a0 2) ≥ 128)) x132003_2).bind fun t134 => (if t134 = true then (some (t130, t133, (decide ((bt a0 2) ≥ 128)), x132003_2, 0)) else (some (0, 0, false, (⟨#[]⟩ : ByteArray), 3))))) else (none)) else (none)) else (none)) = some (r1, r2, r3, r4, r5) := by first | (rw [hji39] at H; exact H) | (simp only [hji39] at H ⊢; exact H)
                                have hji39w : (IntKind.i64.wrap (x5_2 + 1)) = ji39 := (i64_w _).trans hji39
                                by_cases c40 : 0 ≤ (ji39)
                                · rw [if_pos c40] at H
                                  have c40b0 := eq_true c40
                                  have c40b1 : decide (0 ≤ (ji39)) = true := decide_eq_true c40
                                  clear c40
                                  by_cases c41 : (ji39) ≤ (wrap64 ((ji39) + 2))
                                  · rw [if_pos c41] at H
                                    have c41b0 := eq_true c41
                                    have c41b1 : decide ((ji39) ≤ (wrap64 ((ji39) + 2))) = true := decide_eq_true c41
                                    by_cases c42 : (wrap64 ((ji39) + 2)) ≤ (a0.size : Int)
                                    · rw [if_pos c42] at H
                                      have c42b0 := eq_true c42
                                      have c42b1 : decide ((wrap64 ((ji39) + 2)) ≤ (a0.size : Int)) = true := decide_eq_true c42
                                      replace H := Option.bind_eq_some_iff.mp H
                                      obtain ⟨t133, A430, H⟩ := H
                                      replace H : ((spec_l03Dns.f kj28 t130 t133 (decide ((bt a0 2) ≥ 128)) x132003_2).bind fun t134 => (if t134 = true then (some (t130, t133, (decide ((bt a0 2) ≥ 128)), x132003_2, 0)) else (some (0, 0, false, (⟨#[]⟩ : ByteArray), 3)))) = some (r1, r2, r3, r4, r5) := H
                                      have A43 := Aside0.mk A430
                                      clear A430
                                      replace H := Option.bind_eq_some_iff.mp H
                                      obtain ⟨t134, A440, H⟩ := H
                                      replace H : (if t134 = true then (some (t130, t133, (decide ((bt a0 2) ≥ 128)), x132003_2, 0)) else (some (0, 0, false, (⟨#[]⟩ : ByteArray), 3))) = some (r1, r2, r3, r4, r5) := H
                                      have A44 := Aside0.mk A440
                                      clear A440
                                      by_cases c45 : t134 = true
                                      · subst c45
                                        have H1 : (some (t130, t133, (decide ((bt a0 2) ≥ 128)), x132003_2, 0)) = some (r1, r2, r3, r4, r5) := by rw [if_pos rfl] at H; exact H
                                        clear H
                                        have H := H1
                                        clear H1
                                        simp only [Option.some.injEq, Prod.mk.injEq] at H
                                        obtain ⟨rfl, rfl, rfl, rfl, rfl⟩ := H
                                        go_wp2_with (first | ((with_reducible refine gate_callee (f := 84) rfl ?_); refine goesL_ (some 89) rfl rfl Tryd.func84 (by kernel_rfl) rfl #[.string (a0.extract ((ji39) : Int).toNat ((wrap64 ((ji39) + 2)) : Int).toNat)] rfl (by (try simp only [List.map_toArray, List.map_cons, List.map_nil]); first | done | (simp only [hji39]; rfl) | rfl | (simp only [List.length_drop, List.length_take]; rfl)) ?_; (with_reducible refine (spec_l01Of.calls kj28 (a0.extract ((ji39) : Int).toNat ((wrap64 ((ji39) + 2)) : Int).toNat) t133 _ A43.out).mono ?_); rintro e w' ⟨rfl, ⟨nd, rfl⟩⟩; refine ⟨_, rfl, ?_⟩; (try (rw [drewN_self wc]; generalize hq_ : World.drewN wc _ = wc; have n0_ : Aside0 (wc.heap[gb128]? = some (.cells #[.int .i64 x129000_2, .int .i64 x129001_2, .bool x129002_2, .string x129003_2] 44 (0, 0))) := ⟨by rw [← hq_]; exact (by (with_reducible repeat (first | refine blk_drewN ?_ _ | refine blk_drew ?_ | refine blk_alloc ?_ _)); exact BK128.out)⟩; have n1_ : Aside0 (wc.heap[gb131]? = some (.cells #[.int .i64 t130, .int .i64 0, .bool (decide ((bt a0 2) ≥ 128)), .string x132003_2] 44 (0, 0))) := ⟨by rw [← hq_]; exact (by (with_reducible repeat (first | refine blk_drewN ?_ _ | refine blk_drew ?_ | refine blk_alloc ?_ _)); exact BK131.out)⟩; have n2_ : Aside0 (Below w.heap.size w wc) := ⟨by rw [← hq_]; exact (by repeat (first | (with_reducible first | exact HB.out | apply below_alloc | apply pw_below_drewN | apply below_drew1 | refine below_set ?_ GE128.out | refine below_set ?_ GE131.out) | exact HB.out))⟩; clear BK128 BK131 HB hq_; have BK128 := n0_; have BK131 := n1_; have HB := n2_; clear n0_ n1_ n2_)); have hnb46 := NB131_128.out; have hnc46 := NB128_131.out; have hcz47_0 : wc.cell? ⟨gb131, 0, none⟩ = some (.int .i64 t130) := (blk_cell BK131.out 0).trans rfl; have hcz47_1 : wc.cell? ⟨gb131, 1, none⟩ = some (.int .i64 0) := (blk_cell BK131.out 1).trans rfl; have hcz47_2 : wc.cell? ⟨gb131, 2, none⟩ = some (.bool (decide ((bt a0 2) ≥ 128))) := (blk_cell BK131.out 2).trans rfl; have hcz47_3 : wc.cell? ⟨gb131, 3, none⟩ = some (.string x132003_2) := (blk_cell BK131.out 3).trans rfl; have hfz47_0 := blk_frozen BK131.out 0; have hfz47_1 := blk_frozen BK131.out 1; have hfz47_2 := blk_frozen BK131.out 2; have hfz47_3 := blk_frozen BK131.out 3) | ((with_reducible refine gate_callee (f := 61) rfl ?_); refine goesL_ (some 92) rfl rfl Tryd.func61 (by kernel_rfl) rfl #[.agg #[.int .i64 t130, .int .i64 t133, .bool (decide ((bt a0 2) ≥ 128)), .string x132003_2]] rfl (by (try simp only [List.map_toArray, List.map_cons, List.map_nil]); first | done | rfl | (simp only [List.length_drop, List.length_take]; rfl)) ?_; (with_reducible refine (spec_l03Dns.calls kj28 t130 t133 (decide ((bt a0 2) ≥ 128)) x132003_2 true _ A44.out).mono ?_); rintro e w48 ⟨rfl, hb⟩; refine ⟨_, rfl, ?_⟩; have n0_ := Aside0.mk (blk_below (g := gb128) (o := .cells #[.int .i64 x129000_2, .int .i64 x129001_2, .bool x129002_2, .string x129003_2] 44 (0, 0)) (by (with_reducible repeat (first | refine blk_drewN ?_ _ | refine blk_drew ?_ | refine blk_alloc ?_ _)); refine blk_far ?_ NB128_131.out _; (with_reducible repeat (first | refine blk_drewN ?_ _ | refine blk_drew ?_ | refine blk_alloc ?_ _)); exact BK128.out) hb); have n1_ := Aside0.mk (blk_below (g := gb131) (o := .cells #[.int .i64 t130, .int .i64 t133, .bool (decide ((bt a0 2) ≥ 128)), .string x132003_2] 44 (0, 0)) (by (with_reducible repeat (first | refine blk_drewN ?_ _ | refine blk_drew ?_ | refine blk_alloc ?_ _)); refine blk_put (cs := #[.int .i64 t130, .int .i64 0, .bool (decide ((bt a0 2) ≥ 128)), .string x132003_2]) ?_ 1 _ rfl; (with_reducible repeat (first | refine blk_drewN ?_ _ | refine blk_drew ?_ | refine blk_alloc ?_ _)); exact BK131.out) hb); have n2_ := Aside0.mk (below_step (by repeat (first | (with_reducible first | exact HB.out | apply below_alloc | apply pw_below_drewN | apply below_drew1 | refine below_set ?_ GE128.out | refine below_set ?_ GE131.out) | exact HB.out)) hb); clear BK128; clear BK131; clear HB; have BK128 := n0_; have BK131 := n1_; have HB := n2_; clear n0_ n1_ n2_; (try clear hb); (try clear hb2); (try clear hk); (try clear hi); have hcz49_0 : w48.cell? ⟨gb131, 0, none⟩ = some (.int .i64 t130) := (blk_cell BK131.out 0).trans rfl; have hcz49_1 : w48.cell? ⟨gb131, 1, none⟩ = some (.int .i64 t133) := (blk_cell BK131.out 1).trans rfl; have hcz49_2 : w48.cell? ⟨gb131, 2, none⟩ = some (.bool (decide ((bt a0 2) ≥ 128))) := (blk_cell BK131.out 2).trans rfl; have hcz49_3 : w48.cell? ⟨gb131, 3, none⟩ = some (.string x132003_2) := (blk_cell BK131.out 3).trans rfl; have hfz49_0 := blk_frozen BK131.out 0; have hfz49_1 := blk_frozen BK131.out 1; have hfz49_2 := blk_frozen BK131.out 2; have hfz49_3 := blk_frozen BK131.out 3; have hcz50_0 : w48.cell? ⟨gb128, 0, none⟩ = some (.int .i64 x129000_2) := (blk_cell BK128.out 0).trans rfl; have hcz50_1 : w48.cell? ⟨gb128, 1, none⟩ = some (.int .i64 x129001_2) := (blk_cell BK128.out 1).trans rfl; have hcz50_2 : w48.cell? ⟨gb128, 2, none⟩ = some (.bool x129002_2) := (blk_cell BK128.out 2).trans rfl; have hcz50_3 : w48.cell? ⟨gb128, 3, none⟩ = some (.string x129003_2) := (blk_cell BK128.out 3).trans rfl; have hfz50_0 := blk_frozen BK128.out 0; have hfz50_1 := blk_frozen BK128.out 1; have hfz50_2 := blk_frozen BK128.out 2; have hfz50_3 := blk_frozen BK128.out 3))
                                        refine bodyPost_ret (results_ct rfl _ _ gb128 44 #[.int .i64 t130, .int .i64 t133, .bool (decide ((bt a0 2) ≥ 128)), .string x132003_2] (0, 0) _ rfl (by (with_reducible repeat (first | refine blk_drewN ?_ _ | refine blk_drew ?_ | refine blk_alloc ?_ _)); refine blk_put (cs := #[.int .i64 t130, .int .i64 t133, .bool (decide ((bt a0 2) ≥ 128)), .string x129003_2]) ?_ 3 _ rfl; (with_reducible repeat (first | refine blk_drewN ?_ _ | refine blk_drew ?_ | refine blk_alloc ?_ _)); refine blk_put (cs := #[.int .i64 t130, .int .i64 t133, .bool x129002_2, .string x129003_2]) ?_ 2 _ rfl; (with_reducible repeat (first | refine blk_drewN ?_ _ | refine blk_drew ?_ | refine blk_alloc ?_ _)); refine blk_put (cs := #[.int .i64 t130, .int .i64 x129001_2, .bool x129002_2, .string x129003_2]) ?_ 1 _ rfl; (with_reducible repeat (first | refine blk_drewN ?_ _ | refine blk_drew ?_ | refine blk_alloc ?_ _)); refine blk_put (cs := #[.int .i64 x129000_2, .int .i64 x129001_2, .bool x129002_2, .string x129003_2]) ?_ 0 _ rfl; (with_reducible repeat (first | refine blk_drewN ?_ _ | refine blk_drew ?_ | refine blk_alloc ?_ _)); exact BK128.out) Tryd.underlying44 rfl (by kernel_rfl)) rfl ?_
                                        exact ⟨by first | rfl | (simp [errW_none, errW_some] <;> rfl) | (simp only [← hji39]; first | rfl | (simp [errW_none, errW_some] <;> rfl)) | (simp [*, errW_none, errW_some] <;> rfl), by repeat (first | (with_reducible first | exact HB.out | apply below_alloc | apply pw_below_drewN | apply below_drew1 | refine below_set ?_ GE128.out | refine below_set ?_ GE131.out) | exact HB.out)⟩
                                      · replace c45 := Bool.eq_false_iff.mpr c45
                                        subst c45
                                        have H1 : (some (0, 0, false, (⟨#[]⟩ : ByteArray), 3)) = some (r1, r2, r3, r4, r5) := by rw [if_neg (show ¬ (false = true) by decide)] at H; exact H
                                        clear H
                                        have H := H1
                                        clear H1
                                        simp only [Option.some.injEq, Prod.mk.injEq] at H
                                        obtain ⟨rfl, rfl, rfl, rfl, rfl⟩ := H
                                        go_wp2_with (first | ((with_reducible refine gate_callee (f := 84) rfl ?_); refine goesL_ (some 89) rfl rfl Tryd.func84 (by kernel_rfl) rfl #[.string (a0.extract ((ji39) : Int).toNat ((wrap64 ((ji39) + 2)) : Int).toNat)] rfl (by (try simp only [List.map_toArray, List.map_cons, List.map_nil]); first | done | (simp only [hji39]; rfl) | rfl | (simp only [List.length_drop, List.length_take]; rfl)) ?_; (with_reducible refine (spec_l01Of.calls kj28 (a0.extract ((ji39) : Int).toNat ((wrap64 ((ji39) + 2)) : Int).toNat) t133 _ A43.out).mono ?_); rintro e w' ⟨rfl, ⟨nd, rfl⟩⟩; refine ⟨_, rfl, ?_⟩; (try (rw [drewN_self wc]; generalize hq_ : World.drewN wc _ = wc; have n0_ : Aside0 (wc.heap[gb128]? = some (.cells #[.int .i64 x129000_2, .int .i64 x129001_2, .bool x129002_2, .string x129003_2] 44 (0, 0))) := ⟨by rw [← hq_]; exact (by (with_reducible repeat (first | refine blk_drewN ?_ _ | refine blk_drew ?_ | refine blk_alloc ?_ _)); exact BK128.out)⟩; have n1_ : Aside0 (wc.heap[gb131]? = some (.cells #[.int .i64 t130, .int .i64 0, .bool (decide ((bt a0 2) ≥ 128)), .string x132003_2] 44 (0, 0))) := ⟨by rw [← hq_]; exact (by (with_reducible repeat (first | refine blk_drewN ?_ _ | refine blk_drew ?_ | refine blk_alloc ?_ _)); exact BK131.out)⟩; have n2_ : Aside0 (Below w.heap.size w wc) := ⟨by rw [← hq_]; exact (by repeat (first | (with_reducible first | exact HB.out | apply below_alloc | apply pw_below_drewN | apply below_drew1 | refine below_set ?_ GE128.out | refine below_set ?_ GE131.out) | exact HB.out))⟩; clear BK128 BK131 HB hq_; have BK128 := n0_; have BK131 := n1_; have HB := n2_; clear n0_ n1_ n2_)); have hnb51 := NB131_128.out; have hnc51 := NB128_131.out; have hcz52_0 : wc.cell? ⟨gb131, 0, none⟩ = some (.int .i64 t130) := (blk_cell BK131.out 0).trans rfl; have hcz52_1 : wc.cell? ⟨gb131, 1, none⟩ = some (.int .i64 0) := (blk_cell BK131.out 1).trans rfl; have hcz52_2 : wc.cell? ⟨gb131, 2, none⟩ = some (.bool (decide ((bt a0 2) ≥ 128))) := (blk_cell BK131.out 2).trans rfl; have hcz52_3 : wc.cell? ⟨gb131, 3, none⟩ = some (.string x132003_2) := (blk_cell BK131.out 3).trans rfl; have hfz52_0 := blk_frozen BK131.out 0; have hfz52_1 := blk_frozen BK131.out 1; have hfz52_2 := blk_frozen BK131.out 2; have hfz52_3 := blk_frozen BK131.out 3) | ((with_reducible refine gate_callee (f := 61) rfl ?_); refine goesL_ (some 92) rfl rfl Tryd.func61 (by kernel_rfl) rfl #[.agg #[.int .i64 t130, .int .i64 t133, .bool (decide ((bt a0 2) ≥ 128)), .string x132003_2]] rfl (by (try simp only [List.map_toArray, List.map_cons, List.map_nil]); first | done | rfl | (simp only [List.length_drop, List.length_take]; rfl)) ?_; (with_reducible refine (spec_l03Dns.calls kj28 t130 t133 (decide ((bt a0 2) ≥ 128)) x132003_2 false _ A44.out).mono ?_); rintro e w53 ⟨rfl, hb⟩; refine ⟨_, rfl, ?_⟩; have n0_ := Aside0.mk (blk_below (g := gb128) (o := .cells #[.int .i64 x129000_2, .int .i64 x129001_2, .bool x129002_2, .string x129003_2] 44 (0, 0)) (by (with_reducible repeat (first | refine blk_drewN ?_ _ | refine blk_drew ?_ | refine blk_alloc ?_ _)); refine blk_far ?_ NB128_131.out _; (with_reducible repeat (first | refine blk_drewN ?_ _ | refine blk_drew ?_ | refine blk_alloc ?_ _)); exact BK128.out) hb); have n1_ := Aside0.mk (blk_below (g := gb131) (o := .cells #[.int .i64 t130, .int .i64 t133, .bool (decide ((bt a0 2) ≥ 128)), .string x132003_2] 44 (0, 0)) (by (with_reducible repeat (first | refine blk_drewN ?_ _ | refine blk_drew ?_ | refine blk_alloc ?_ _)); refine blk_put (cs := #[.int .i64 t130, .int .i64 0, .bool (decide ((bt a0 2) ≥ 128)), .string x132003_2]) ?_ 1 _ rfl; (with_reducible repeat (first | refine blk_drewN ?_ _ | refine blk_drew ?_ | refine blk_alloc ?_ _)); exact BK131.out) hb); have n2_ := Aside0.mk (below_step (by repeat (first | (with_reducible first | exact HB.out | apply below_alloc | apply pw_below_drewN | apply below_drew1 | refine below_set ?_ GE128.out | refine below_set ?_ GE131.out) | exact HB.out)) hb); clear BK128; clear BK131; clear HB; have BK128 := n0_; have BK131 := n1_; have HB := n2_; clear n0_ n1_ n2_; (try clear hb); (try clear hb2); (try clear hk); (try clear hi); have hcz54_0 : w53.cell? ⟨gb128, 0, none⟩ = some (.int .i64 x129000_2) := (blk_cell BK128.out 0).trans rfl; have hcz54_1 : w53.cell? ⟨gb128, 1, none⟩ = some (.int .i64 x129001_2) := (blk_cell BK128.out 1).trans rfl; have hcz54_2 : w53.cell? ⟨gb128, 2, none⟩ = some (.bool x129002_2) := (blk_cell BK128.out 2).trans rfl; have hcz54_3 : w53.cell? ⟨gb128, 3, none⟩ = some (.string x129003_2) := (blk_cell BK128.out 3).trans rfl; have hfz54_0 := blk_frozen BK128.out 0; have hfz54_1 := blk_frozen BK128.out 1; have hfz54_2 := blk_frozen BK128.out 2; have hfz54_3 := blk_frozen BK128.out 3))
                                        refine bodyPost_ret (results_ct rfl _ _ gb128 44 #[.int .i64 0, .int .i64 0, .bool false, .string (⟨#[]⟩ : ByteArray)] (0, 0) _ rfl (by (with_reducible repeat (first | refine blk_drewN ?_ _ | refine blk_drew ?_ | refine blk_alloc ?_ _)); refine blk_put (cs := #[.int .i64 0, .int .i64 0, .bool false, .string x129003_2]) ?_ 3 _ rfl; (with_reducible repeat (first | refine blk_drewN ?_ _ | refine blk_drew ?_ | refine blk_alloc ?_ _)); refine blk_put (cs := #[.int .i64 0, .int .i64 0, .bool x129002_2, .string x129003_2]) ?_ 2 _ rfl; (with_reducible repeat (first | refine blk_drewN ?_ _ | refine blk_drew ?_ | refine blk_alloc ?_ _)); refine blk_put (cs := #[.int .i64 0, .int .i64 x129001_2, .bool x129002_2, .string x129003_2]) ?_ 1 _ rfl; (with_reducible repeat (first | refine blk_drewN ?_ _ | refine blk_drew ?_ | refine blk_alloc ?_ _)); refine blk_put (cs := #[.int .i64 x129000_2, .int .i64 x129001_2, .bool x129002_2, .string x129003_2]) ?_ 0 _ rfl; (with_reducible repeat (first | refine blk_drewN ?_ _ | refine blk_drew ?_ | refine blk_alloc ?_ _)); exact BK128.out) Tryd.underlying44 rfl (by kernel_rfl)) rfl ?_
                                        exact ⟨by first | rfl | (simp [errW_none, errW_some] <;> rfl) | (simp only [← hji39]; first | rfl | (simp [errW_none, errW_some] <;> rfl)) | (simp [*, errW_none, errW_some] <;> rfl), by repeat (first | (with_reducible first | exact HB.out | apply below_alloc | apply pw_below_drewN | apply below_drew1 | refine below_set ?_ GE128.out | refine below_set ?_ GE131.out) | exact HB.out)⟩
                                    · rw [if_neg c42] at H
                                      exact absurd H (by simp)
                                  · rw [if_neg c41] at H
                                    exact absurd H (by simp)
                                · rw [if_neg c40] at H
                                  exact absurd H (by simp)
                        · rw [if_neg c28] at H
                          have c28b0 : ((wrap64 (bt a0 x5_2)) == 0) = false := beq_eq_false_iff_ne.mpr c28
                          have c28b1 : ((wrap64 (bt a0 x5_2)) != 0) = true := bne_iff_ne.mpr c28
                          have HC55 := Aside0.mk H
                          clear H
                          have p27 : 0 ≤ (x5_2 : Int) := of_decide_eq_true (by first | (with_reducible assumption) | assumption)
                          have q27 : x5_2 < (a0.size : Int) := of_decide_eq_true (by first | (with_reducible assumption) | assumption)
                          have hx27 := bt_at a0 x5_2
                          replace p27 := eq_true p27
                          replace q27 := eq_true q27
                          go_upto_region 10 with (fail)
                          go_cut [46] (fun v46 wc => ∃ (kq : Nat) (x46_54 : Bool), v46 = .bool x46_54 ∧ Aside0 (spec_l03ReadDns.j2 kq a0 (wrap64 (x5_2 + 1)) (wrap64 (bt a0 x5_2)) x46_54 t130 0 (decide ((bt a0 2) ≥ 128)) x132003_2 = some (r1, r2, r3, r4, r5)) ∧ Aside0 (kq ≤ k2) ∧ Aside0 (wc.heap[gb128]? = some (.cells #[.int .i64 x129000_2, .int .i64 x129001_2, .bool x129002_2, .string x129003_2] 44 (0, 0))) ∧ Aside0 (wc.heap[gb131]? = some (.cells #[.int .i64 t130, .int .i64 0, .bool (decide ((bt a0 2) ≥ 128)), .string x132003_2] 44 (0, 0))) ∧ Aside0 (Below w.heap.size w wc))
                          case first =>
                            have H := HC55.out
                            clear HC55
                            by_cases c56 : (wrap64 (bt a0 x5_2)) > 63
                            · rw [if_pos c56] at H
                              have c56b0 : decide (63 < (wrap64 (bt a0 x5_2))) = true := decide_eq_true c56
                              clear c56
                              (first | rw [c56b0] | (simp only [i64_w, i32_w]; rw [c56b0]) | skip)
                              have H' := Aside0.mk H
                              clear H
                              go_wp2
                              go_meet
                              case rel => exact ⟨_, (true), (by first | rfl | (simp; done) | (simp [*]; done)), H', ⟨by have := HJ1.out; have := HK2.out; first | omega | exact Nat.le_refl _⟩, ⟨by (with_reducible repeat (first | refine blk_drewN ?_ _ | refine blk_drew ?_ | refine blk_alloc ?_ _)); exact BK128.out⟩, ⟨by (with_reducible repeat (first | refine blk_drewN ?_ _ | refine blk_drew ?_ | refine blk_alloc ?_ _)); exact BK131.out⟩, ⟨by repeat (first | (with_reducible first | exact HB.out | apply below_alloc | apply pw_below_drewN | apply below_drew1 | refine below_set ?_ GE128.out | refine below_set ?_ GE131.out) | exact HB.out)⟩⟩
                            · rw [if_neg c56] at H
                              have c56b0 : decide (63 < (wrap64 (bt a0 x5_2))) = false := decide_eq_false c56
                              clear c56
                              (first | rw [c56b0] | (simp only [i64_w, i32_w]; rw [c56b0]) | skip)
                              have H' := Aside0.mk H
                              clear H
                              go_wp2
                              go_meet
                              case rel => exact ⟨_, (decide ((wrap64 ((wrap64 (x5_2 + 1)) + (wrap64 (bt a0 x5_2)))) > (a0.size : Int))), (by first | rfl | (simp; done) | (simp [*]; done)), H', ⟨by have := HJ1.out; have := HK2.out; first | omega | exact Nat.le_refl _⟩, ⟨by (with_reducible repeat (first | refine blk_drewN ?_ _ | refine blk_drew ?_ | refine blk_alloc ?_ _)); exact BK128.out⟩, ⟨by (with_reducible repeat (first | refine blk_drewN ?_ _ | refine blk_drew ?_ | refine blk_alloc ?_ _)); exact BK131.out⟩, ⟨by repeat (first | (with_reducible first | exact HB.out | apply below_alloc | apply pw_below_drewN | apply below_drew1 | refine below_set ?_ GE128.out | refine below_set ?_ GE131.out) | exact HB.out)⟩⟩
                          case rest =>
                            clear HC55
                            try clear c1
                            try clear p1
                            try clear q1
                            try clear hx1
                            try clear qi1
                            try clear c2
                            try clear p2
                            try clear q2
                            try clear hx2
                            try clear c3
                            try clear c4
                            try clear c4b0
                            try clear c4b1
                            try clear c5
                            try clear c5b0
                            try clear c5b1
                            try clear c6
                            try clear c6b0
                            try clear c6b1
                            try clear p6
                            try clear c8
                            try clear c10
                            try clear c10b0
                            try clear c10b1
                            try clear c11
                            try clear c11b0
                            try clear c11b1
                            try clear c13
                            try clear c13b0
                            try clear c13b1
                            try clear p14
                            try clear q14
                            try clear hx14
                            try clear qi14
                            try clear c22
                            try clear c22b0
                            try clear c23
                            try clear c25
                            try clear c25b0
                            try clear c26
                            try clear c26b0
                            try clear p27
                            try clear q27
                            try clear hx27
                            try clear c28
                            try clear c28b0
                            try clear c28b1
                            try clear c30
                            try clear c30b0
                            try clear c32
                            try clear c32b0
                            try clear c32b1
                            try clear c33
                            try clear c33b0
                            try clear c33b1
                            try clear c34
                            try clear c34b0
                            try clear c34b1
                            try clear c36
                            try clear c37
                            try clear c40
                            try clear c40b0
                            try clear c40b1
                            try clear c41
                            try clear c41b0
                            try clear c41b1
                            try clear c42
                            try clear c42b0
                            try clear c42b1
                            try clear c45
                            try clear c46
                            try clear c51
                            try clear c56
                            try clear c56b0
                            try clear hcz24_0
                            try clear hcz24_1
                            try clear hcz24_2
                            try clear hcz24_3
                            try clear hcz38_0
                            try clear hcz38_1
                            try clear hcz38_2
                            try clear hcz38_3
                            try clear hcz47_0
                            try clear hcz47_1
                            try clear hcz47_2
                            try clear hcz47_3
                            try clear hcz49_0
                            try clear hcz49_1
                            try clear hcz49_2
                            try clear hcz49_3
                            try clear hcz50_0
                            try clear hcz50_1
                            try clear hcz50_2
                            try clear hcz50_3
                            try clear hcz52_0
                            try clear hcz52_1
                            try clear hcz52_2
                            try clear hcz52_3
                            try clear hcz54_0
                            try clear hcz54_1
                            try clear hcz54_2
                            try clear hcz54_3
                            try clear hcz9_0
                            try clear hcz9_1
                            try clear hcz9_2
                            try clear hcz9_3
                            try clear hfz24_0
                            try clear hfz24_1
                            try clear hfz24_2
                            try clear hfz24_3
                            try clear hfz38_0
                            try clear hfz38_1
                            try clear hfz38_2
                            try clear hfz38_3
                            try clear hfz47_0
                            try clear hfz47_1
                            try clear hfz47_2
                            try clear hfz47_3
                            try clear hfz49_0
                            try clear hfz49_1
                            try clear hfz49_2
                            try clear hfz49_3
                            try clear hfz50_0
                            try clear hfz50_1
                            try clear hfz50_2
                            try clear hfz50_3
                            try clear hfz52_0
                            try clear hfz52_1
                            try clear hfz52_2
                            try clear hfz52_3
                            try clear hfz54_0
                            try clear hfz54_1
                            try clear hfz54_2
                            try clear hfz54_3
                            try clear hfz9_0
                            try clear hfz9_1
                            try clear hfz9_2
                            try clear hfz9_3
                            try clear p1
                            try clear p14
                            try clear p2
                            try clear p27
                            try clear p6
                            try clear q1
                            try clear q14
                            try clear q2
                            try clear q27
                            obtain ⟨kq, x46_54, rfl, HA, HJ54, BK128, BK131, HB⟩ := hcut
                            cases kq with
                            | zero => exact absurd HA.out (by simp [spec_l03ReadDns.j2])
                            | succ kj54 =>
                              have H := HA.out
                              clear HA
                              simp only [spec_l03ReadDns.j2] at H
                              by_cases c57 : x46_54 = true
                              · subst c57
                                have H1 : (some (0, 0, false, (⟨#[]⟩ : ByteArray), 3)) = some (r1, r2, r3, r4, r5) := by rw [if_pos rfl] at H; exact H
                                clear H
                                have H := H1
                                clear H1
                                simp only [Option.some.injEq, Prod.mk.injEq] at H
                                obtain ⟨rfl, rfl, rfl, rfl, rfl⟩ := H
                                have hnb58 := NB128_131.out
                                have hnc58 := NB131_128.out
                                have hcz59_0 : wc.cell? ⟨gb128, 0, none⟩ = some (.int .i64 x129000_2) := (blk_cell BK128.out 0).trans rfl
                                have hcz59_1 : wc.cell? ⟨gb128, 1, none⟩ = some (.int .i64 x129001_2) := (blk_cell BK128.out 1).trans rfl
                                have hcz59_2 : wc.cell? ⟨gb128, 2, none⟩ = some (.bool x129002_2) := (blk_cell BK128.out 2).trans rfl
                                have hcz59_3 : wc.cell? ⟨gb128, 3, none⟩ = some (.string x129003_2) := (blk_cell BK128.out 3).trans rfl
                                have hfz59_0 := blk_frozen BK128.out 0
                                have hfz59_1 := blk_frozen BK128.out 1
                                have hfz59_2 := blk_frozen BK128.out 2
                                have hfz59_3 := blk_frozen BK128.out 3
                                go_wp2
                                refine bodyPost_ret (results_ct rfl _ _ gb128 44 #[.int .i64 0, .int .i64 0, .bool false, .string (⟨#[]⟩ : ByteArray)] (0, 0) _ rfl (by (with_reducible repeat (first | refine blk_drewN ?_ _ | refine blk_drew ?_ | refine blk_alloc ?_ _)); refine blk_put (cs := #[.int .i64 0, .int .i64 0, .bool false, .string x129003_2]) ?_ 3 _ rfl; (with_reducible repeat (first | refine blk_drewN ?_ _ | refine blk_drew ?_ | refine blk_alloc ?_ _)); refine blk_put (cs := #[.int .i64 0, .int .i64 0, .bool x129002_2, .string x129003_2]) ?_ 2 _ rfl; (with_reducible repeat (first | refine blk_drewN ?_ _ | refine blk_drew ?_ | refine blk_alloc ?_ _)); refine blk_put (cs := #[.int .i64 0, .int .i64 x129001_2, .bool x129002_2, .string x129003_2]) ?_ 1 _ rfl; (with_reducible repeat (first | refine blk_drewN ?_ _ | refine blk_drew ?_ | refine blk_alloc ?_ _)); refine blk_put (cs := #[.int .i64 x129000_2, .int .i64 x129001_2, .bool x129002_2, .string x129003_2]) ?_ 0 _ rfl; (with_reducible repeat (first | refine blk_drewN ?_ _ | refine blk_drew ?_ | refine blk_alloc ?_ _)); exact BK128.out) Tryd.underlying44 rfl (by kernel_rfl)) rfl ?_
                                exact ⟨by first | rfl | (simp [errW_none, errW_some] <;> rfl) | (simp [*, errW_none, errW_some] <;> rfl), by repeat (first | (with_reducible first | exact HB.out | apply below_alloc | apply pw_below_drewN | apply below_drew1 | refine below_set ?_ GE128.out | refine below_set ?_ GE131.out) | exact HB.out)⟩
                              · replace c57 := Bool.eq_false_iff.mpr c57
                                subst c57
                                have H1 : (if x132003_2.toList = ([] : List UInt8) then (if 0 ≤ (wrap64 (x5_2 + 1)) then (if (wrap64 (x5_2 + 1)) ≤ (wrap64 ((wrap64 (x5_2 + 1)) + (wrap64 (bt a0 x5_2)))) then (if (wrap64 ((wrap64 (x5_2 + 1)) + (wrap64 (bt a0 x5_2)))) ≤ (a0.size : Int) then (if x132003_2.size + (a0.extract ((wrap64 (x5_2 + 1)) : Int).toNat ((wrap64 ((wrap64 (x5_2 + 1)) + (wrap64 (bt a0 x5_2)))) : Int).toNat).size ≤ 9223372036854775807 then (spec_l03ReadDns.l0 kj54 a0 (wrap64 ((wrap64 (x5_2 + 1)) + (wrap64 (bt a0 x5_2)))) t130 0 (decide ((bt a0 2) ≥ 128)) (x132003_2 ++ (a0.extract ((wrap64 (x5_2 + 1)) : Int).toNat ((wrap64 ((wrap64 (x5_2 + 1)) + (wrap64 (bt a0 x5_2)))) : Int).toNat))) else (none)) else (none)) else (none)) else (none)) else (if x132003_2.size + 1 ≤ 9223372036854775807 then (if 0 ≤ (wrap64 (x5_2 + 1)) then (if (wrap64 (x5_2 + 1)) ≤ (wrap64 ((wrap64 (x5_2 + 1)) + (wrap64 (bt a0 x5_2)))) then (if (wrap64 ((wrap64 (x5_2 + 1)) + (wrap64 (bt a0 x5_2)))) ≤ (a0.size : Int) then (if (x132003_2 ++ (⟨#[46]⟩ : ByteArray)).size + (a0.extract ((wrap64 (x5_2 + 1)) : Int).toNat ((wrap64 ((wrap64 (x5_2 + 1)) + (wrap64 (bt a0 x5_2)))) : Int).toNat).size ≤ 9223372036854775807 then (spec_l03ReadDns.l0 kj54 a0 (wrap64 ((wrap64 (x5_2 + 1)) + (wrap64 (bt a0 x5_2)))) t130 0 (decide ((bt a0 2) ≥ 128)) ((x132003_2 ++ (⟨#[46]⟩ : ByteArray)) ++ (a0.extract ((wrap64 (x5_2 + 1)) : Int).toNat ((wrap64 ((wrap64 (x5_2 + 1)) + (wrap64 (bt a0 x5_2)))) : Int).toNat))) else (none)) else (none)) else (none)) else (none)) else (none))) = some (r1, r2, r3, r4, r5) := by rw [if_neg (show ¬ (false = true) by decide)] at H; exact H
                                clear H
                                have H := H1
                                clear H1
                                by_cases c60 : x132003_2.toList = ([] : List UInt8)
                                · rw [if_pos c60] at H
                                  have c60b0 : (x132003_2.toList == ([] : List UInt8)) = true := beq_iff_eq.mpr c60
                                  have c60b1 : (x132003_2.toList != ([] : List UInt8)) = false := bne_eq_false_iff_eq.mpr c60
                                  clear c60
                                  obtain ⟨ji61, hji61⟩ : ∃ j_ : Int, (wrap64 (x5_2 + 1)) = j_ := ⟨_, rfl⟩
                                  replace H : (if 0 ≤ (ji61) then (if (ji61) ≤ (wrap64 ((ji61) + (wrap64 (bt a0 x5_2)))) then (if (wrap64 ((ji61) + (wrap64 (bt a0 x5_2)))) ≤ (a0.size : Int) then (if x132003_2.size + (a0.extract ((ji61) : Int).toNat ((wrap64 ((ji61) + (wrap64 (bt a0 x5_2)))) : Int).toNat).size ≤ 9223372036854775807 then (spec_l03ReadDns.l0 kj54 a0 (wrap64 ((ji61) + (wrap64 (bt a0 x5_2)))) t130 0 (decide ((bt a0 2) ≥ 128)) (x132003_2 ++ (a0.extract ((ji61) : Int).toNat ((wrap64 ((ji61) + (wrap64 (bt a0 x5_2)))) : Int).toNat))) else (none)) else (none)) else (none)) else (none)) = some (r1, r2, r3, r4, r5) := by first | (rw [hji61] at H; exact H) | (simp only [hji61] at H ⊢; exact H)
                                  have hji61w : (IntKind.i64.wrap (x5_2 + 1)) = ji61 := (i64_w _).trans hji61
                                  by_cases c62 : 0 ≤ (ji61)
                                  · rw [if_pos c62] at H
                                    have c62b0 := eq_true c62
                                    have c62b1 : decide (0 ≤ (ji61)) = true := decide_eq_true c62
                                    clear c62
                                    by_cases c63 : (ji61) ≤ (wrap64 ((ji61) + (wrap64 (bt a0 x5_2))))
                                    · rw [if_pos c63] at H
                                      have c63b0 := eq_true c63
                                      have c63b1 : decide ((ji61) ≤ (wrap64 ((ji61) + (wrap64 (bt a0 x5_2))))) = true := decide_eq_true c63
                                      by_cases c64 : (wrap64 ((ji61) + (wrap64 (bt a0 x5_2)))) ≤ (a0.size : Int)
                                      · rw [if_pos c64] at H
                                        have c64b0 := eq_true c64
                                        have c64b1 : decide ((wrap64 ((ji61) + (wrap64 (bt a0 x5_2)))) ≤ (a0.size : Int)) = true := decide_eq_true c64
                                        by_cases c65 : x132003_2.size + (a0.extract ((ji61) : Int).toNat ((wrap64 ((ji61) + (wrap64 (bt a0 x5_2)))) : Int).toNat).size ≤ 9223372036854775807
                                        · rw [if_pos c65] at H
                                          have c65b0 := eq_true c65
                                          have c65b1 : decide (x132003_2.size + (a0.extract ((ji61) : Int).toNat ((wrap64 ((ji61) + (wrap64 (bt a0 x5_2)))) : Int).toNat).size ≤ 9223372036854775807) = true := decide_eq_true c65
                                          try have c65b2 : (9223372036854775807 < x132003_2.size + (a0.extract ((ji61) : Int).toNat ((wrap64 ((ji61) + (wrap64 (bt a0 x5_2)))) : Int).toNat).size) = False := eq_false (Nat.not_lt.2 c65)
                                          try have c65b4 := c65b2
                                          try (rw [ByteArray.size_extract, Nat.min_eq_left] at c65b4; rotate_left; omega)
                                          have H' := Aside0.mk H
                                          clear H
                                          have hnb66 := NB131_128.out
                                          have hnc66 := NB128_131.out
                                          have hcz67_0 : wc.cell? ⟨gb131, 0, none⟩ = some (.int .i64 t130) := (blk_cell BK131.out 0).trans rfl
                                          have hcz67_1 : wc.cell? ⟨gb131, 1, none⟩ = some (.int .i64 0) := (blk_cell BK131.out 1).trans rfl
                                          have hcz67_2 : wc.cell? ⟨gb131, 2, none⟩ = some (.bool (decide ((bt a0 2) ≥ 128))) := (blk_cell BK131.out 2).trans rfl
                                          have hcz67_3 : wc.cell? ⟨gb131, 3, none⟩ = some (.string x132003_2) := (blk_cell BK131.out 3).trans rfl
                                          have hfz67_0 := blk_frozen BK131.out 0
                                          have hfz67_1 := blk_frozen BK131.out 1
                                          have hfz67_2 := blk_frozen BK131.out 2
                                          have hfz67_3 := blk_frozen BK131.out 3
                                          try go_wp2
                                          have n0_ := Aside0.mk (blk_drew BK128.out)
                                          have n1_ := Aside0.mk (blk_drew BK131.out)
                                          have n2_ := Aside0.mk (below_drew1 HB.out)
                                          clear BK128
                                          clear BK131
                                          clear HB
                                          have BK128 := n0_
                                          have BK131 := n1_
                                          have HB := n2_
                                          clear n0_ n1_ n2_
                                          refine start_ (n := 11) (S := fun w' => w'.cell? ⟨gb131, 0, none⟩ = some (.int .i64 t130) ∧ w'.cell? ⟨gb131, 1, none⟩ = some (.int .i64 0) ∧ w'.cell? ⟨gb131, 2, none⟩ = some (.bool (decide ((bt a0 2) ≥ 128))) ∧ w'.cell? ⟨gb131, 3, none⟩ = some (.string x132003_2)) (ds := [10]) #[false, false, false, false, false, false, false, false, false, false, false] (by kernel_rfl) rfl rfl ⟨(blk_cell BK131.out 0).trans rfl, (blk_cell BK131.out 1).trans rfl, (blk_cell BK131.out 2).trans rfl, (blk_cell BK131.out 3).trans rfl⟩ (fun hHeld => ?_); refine with_tabW spec_l03ReadDns.tab14 spec_l03ReadDns.bits14 (fun HT_ HW_ => ?_)
                                          generalize wc.drew = w68 at BK128 BK131 HB hHeld ⊢
                                          refine pure_ (i := 0) (N := some 55) (v := ?_) (a' := ?_) #[true, false, false, false, false, false, false, false, false, false, false] rfl rfl (any_of HT_.out (by kernel_rfl)) (fun _ _ _ h => h) (Or.inl ⟨by rfl, ?_⟩) ?_ ?_
                                          rotate_left
                                          · intro w'
                                            go_simp
                                            with_reducible rfl
                                          rotate_left
                                          · simp only [Act.put, List.setIfInBounds_toArray, List.set_cons_zero, List.set_cons_succ, i64_w, i32_w]
                                            rfl
                                          refine pure_ (i := 2) (N := some 57) (v := ?_) (a' := ?_) #[true, false, true, false, false, false, false, false, false, false, false] rfl rfl (any_of HT_.out (by kernel_rfl)) (fun _ _ _ h => h) (Or.inl ⟨by rfl, ?_⟩) ?_ ?_
                                          rotate_left
                                          · intro w'
                                            go_simp
                                            with_reducible rfl
                                          rotate_left
                                          · simp only [Act.put, List.setIfInBounds_toArray, List.set_cons_zero, List.set_cons_succ, i64_w, i32_w]
                                            rfl
                                          refine pure_ (i := 3) (N := some 58) (v := ?_) (a' := ?_) #[true, false, true, true, false, false, false, false, false, false, false] rfl rfl (any_of HT_.out (by kernel_rfl)) (fun _ _ _ h => h) (Or.inl ⟨by rfl, ?_⟩) ?_ ?_
                                          rotate_left
                                          · intro w'
                                            go_simp
                                            with_reducible rfl
                                          rotate_left
                                          · simp only [Act.put, List.setIfInBounds_toArray, List.set_cons_zero, List.set_cons_succ, i64_w, i32_w]
                                            rfl
                                          refine pure_ (i := 4) (N := some 59) (v := ?_) (a' := ?_) #[true, false, true, true, true, false, false, false, false, false, false] rfl rfl (any_of HT_.out (by kernel_rfl)) (fun _ _ _ h => h) (Or.inl ⟨by rfl, ?_⟩) ?_ ?_
                                          rotate_left
                                          · intro w'
                                            go_simp
                                            with_reducible rfl
                                          rotate_left
                                          · simp only [Act.put, List.setIfInBounds_toArray, List.set_cons_zero, List.set_cons_succ, i64_w, i32_w]
                                            rfl
                                          refine pure_ (i := 5) (N := some 60) (v := ?_) (a' := ?_) #[true, false, true, true, true, true, false, false, false, false, false] rfl rfl (any_of HT_.out (by kernel_rfl)) (fun _ _ _ h => h) (Or.inl ⟨by rfl, ?_⟩) ?_ ?_
                                          rotate_left
                                          · intro w'
                                            go_simp
                                            with_reducible rfl
                                          rotate_left
                                          · simp only [Act.put, List.setIfInBounds_toArray, List.set_cons_zero, List.set_cons_succ, i64_w, i32_w]
                                            rfl
                                          refine pure_ (i := 6) (N := some 61) (v := ?_) (a' := ?_) #[true, false, true, true, true, true, true, false, false, false, false] rfl rfl (any_of HT_.out (by kernel_rfl)) (fun _ _ _ h => h) (Or.inl ⟨by rfl, ?_⟩) ?_ ?_
                                          rotate_left
                                          · intro w'
                                            go_simp
                                            with_reducible rfl
                                          rotate_left
                                          · simp only [Act.put, List.setIfInBounds_toArray, List.set_cons_zero, List.set_cons_succ, i64_w, i32_w]
                                            rfl
                                          refine pure_ (i := 7) (N := some 62) (v := ?_) (a' := ?_) #[true, false, true, true, true, true, true, true, false, false, false] rfl rfl (any_of HT_.out (by kernel_rfl)) (fun _ _ _ h => h) (Or.inl ⟨by rfl, ?_⟩) ?_ ?_
                                          rotate_left
                                          · intro w'
                                            go_simp
                                            with_reducible rfl
                                          rotate_left
                                          · simp only [Act.put, List.setIfInBounds_toArray, List.set_cons_zero, List.set_cons_succ, i64_w, i32_w]
                                            rfl
                                          refine take_ (i := 1) (N := some 56) (v := ?_) (a' := ?_) #[true, true, true, true, true, true, true, true, false, false, false] rfl rfl (take_ofW HT_.out HW_.out (by kernel_rfl)) (fun _ _ _ h => h) (Or.inl ⟨by rfl, ?_⟩) hHeld ?_ ?_
                                          rotate_left
                                          · rintro w' ⟨s0, s1, s2, s3⟩
                                            go_simp
                                            with_reducible rfl
                                          rotate_left
                                          · simp only [Act.put, List.setIfInBounds_toArray, List.set_cons_zero, List.set_cons_succ, i64_w, i32_w]
                                            rfl
                                          refine pure_ (i := 8) (N := some 63) (v := ?_) (a' := ?_) #[true, true, true, true, true, true, true, true, true, false, false] rfl rfl (any_of HT_.out (by kernel_rfl)) (fun _ _ _ h => h) (Or.inl ⟨by rfl, ?_⟩) ?_ ?_
                                          rotate_left
                                          · intro w'
                                            go_simp
                                            with_reducible rfl
                                          rotate_left
                                          · simp only [Act.put, List.setIfInBounds_toArray, List.set_cons_zero, List.set_cons_succ, i64_w, i32_w]
                                            rfl
                                          refine pure_ (i := 9) (N := some 64) (v := ?_) (a' := ?_) #[true, true, true, true, true, true, true, true, true, true, false] rfl rfl (any_of HT_.out (by kernel_rfl)) (fun _ _ _ h => h) (Or.inl ⟨by rfl, ?_⟩) ?_ ?_
                                          rotate_left
                                          · intro w'
                                            go_simp
                                            with_reducible rfl
                                          rotate_left
                                          · simp only [Act.put, List.setIfInBounds_toArray, List.set_cons_zero, List.set_cons_succ, i64_w, i32_w]
                                            rfl
                                          refine last_ (i := 10) (N := none) #[true, true, true, true, true, true, true, true, true, true, true] rfl rfl (one_of HT_.out (by kernel_rfl)) (by decide) (fun K hK => ?_)
                                          have hs69 : w68.cell? ⟨gb131, 3, none⟩ = some (.string x132003_2) := (blk_cell BK131.out 3).trans rfl
                                          have hfs69 := blk_frozen BK131.out 3
                                          have hns69_0 := NB128_131.out
                                          have hms69_0 := NB131_128.out
                                          refine skip_ (w1 := ?_) (by rfl) rfl ?_ ?_
                                          rotate_left
                                          · go_simp
                                            rfl
                                          refine hK.out _ _ ?_
                                          clear hK K
                                          refine done_ (done_of HT_.out (by kernel_rfl)) ?_
                                          try go_wp2
                                          go_roundg kj54
                                          case measure => have := HJ1.out; have := HK2.out; have := HJ54.out; omega
                                          case rel => exact ⟨(wrap64 ((ji61) + (wrap64 (bt a0 x5_2)))), (x129000_2), (x129001_2), (x129002_2), (x129003_2), (x132003_2 ++ (a0.extract ((ji61) : Int).toNat ((wrap64 ((ji61) + (wrap64 (bt a0 x5_2)))) : Int).toNat)), (by first | rfl | (simp; done) | (simp only [← hji61] <;> (first | rfl | simp)) | (simp [*]; done)), H', ⟨by have := HJ1.out; have := HK2.out; have := HJ54.out; omega⟩, ⟨by (with_reducible repeat (first | refine blk_drewN ?_ _ | refine blk_drew ?_ | refine blk_alloc ?_ _)); refine blk_far ?_ NB128_131.out _; (with_reducible repeat (first | refine blk_drewN ?_ _ | refine blk_drew ?_ | refine blk_alloc ?_ _)); exact BK128.out⟩, ⟨by (with_reducible repeat (first | refine blk_drewN ?_ _ | refine blk_drew ?_ | refine blk_alloc ?_ _)); refine blk_put (cs := #[.int .i64 t130, .int .i64 0, .bool (decide ((bt a0 2) ≥ 128)), .string x132003_2]) ?_ 3 _ rfl; (with_reducible repeat (first | refine blk_drewN ?_ _ | refine blk_drew ?_ | refine blk_alloc ?_ _)); exact BK131.out⟩, ⟨by repeat (first | (with_reducible first | exact HB.out | apply below_alloc | apply pw_below_drewN | apply below_drew1 | refine below_set ?_ GE128.out | refine below_set ?_ GE131.out) | exact HB.out)⟩⟩
                                        · rw [if_neg c65] at H
                                          exact absurd H (by simp)
                                      · rw [if_neg c64] at H
                                        exact absurd H (by simp)
                                    · rw [if_neg c63] at H
                                      exact absurd H (by simp)
                                  · rw [if_neg c62] at H
                                    exact absurd H (by simp)
                                · rw [if_neg c60] at H
                                  have c60b0 : (x132003_2.toList == ([] : List UInt8)) = false := beq_eq_false_iff_ne.mpr c60
                                  have c60b1 : (x132003_2.toList != ([] : List UInt8)) = true := bne_iff_ne.mpr c60
                                  by_cases c70 : x132003_2.size + 1 ≤ 9223372036854775807
                                  · rw [if_pos c70] at H
                                    have c70b0 := eq_true c70
                                    have c70b1 : decide (x132003_2.size + 1 ≤ 9223372036854775807) = true := decide_eq_true c70
                                    try have c70b2 : (9223372036854775807 < x132003_2.size + 1) = False := eq_false (Nat.not_lt.2 c70)
                                    obtain ⟨ji71, hji71⟩ : ∃ j_ : Int, (wrap64 (x5_2 + 1)) = j_ := ⟨_, rfl⟩
                                    replace H : (if 0 ≤ (ji71) then (if (ji71) ≤ (wrap64 ((ji71) + (wrap64 (bt a0 x5_2)))) then (if (wrap64 ((ji71) + (wrap64 (bt a0 x5_2)))) ≤ (a0.size : Int) then (if (x132003_2 ++ (⟨#[46]⟩ : ByteArray)).size + (a0.extract ((ji71) : Int).toNat ((wrap64 ((ji71) + (wrap64 (bt a0 x5_2)))) : Int).toNat).size ≤ 9223372036854775807 then (spec_l03ReadDns.l0 kj54 a0 (wrap64 ((ji71) + (wrap64 (bt a0 x5_2)))) t130 0 (decide ((bt a0 2) ≥ 128)) ((x132003_2 ++ (⟨#[46]⟩ : ByteArray)) ++ (a0.extract ((ji71) : Int).toNat ((wrap64 ((ji71) + (wrap64 (bt a0 x5_2)))) : Int).toNat))) else (none)) else (none)) else (none)) else (none)) = some (r1, r2, r3, r4, r5) := by first | (rw [hji71] at H; exact H) | (simp only [hji71] at H ⊢; exact H)
                                    have hji71w : (IntKind.i64.wrap (x5_2 + 1)) = ji71 := (i64_w _).trans hji71
                                    by_cases c72 : 0 ≤ (ji71)
                                    · rw [if_pos c72] at H
                                      have c72b0 := eq_true c72
                                      have c72b1 : decide (0 ≤ (ji71)) = true := decide_eq_true c72
                                      clear c72
                                      by_cases c73 : (ji71) ≤ (wrap64 ((ji71) + (wrap64 (bt a0 x5_2))))
                                      · rw [if_pos c73] at H
                                        have c73b0 := eq_true c73
                                        have c73b1 : decide ((ji71) ≤ (wrap64 ((ji71) + (wrap64 (bt a0 x5_2))))) = true := decide_eq_true c73
                                        by_cases c74 : (wrap64 ((ji71) + (wrap64 (bt a0 x5_2)))) ≤ (a0.size : Int)
                                        · rw [if_pos c74] at H
                                          have c74b0 := eq_true c74
                                          have c74b1 : decide ((wrap64 ((ji71) + (wrap64 (bt a0 x5_2)))) ≤ (a0.size : Int)) = true := decide_eq_true c74
                                          by_cases c75 : (x132003_2 ++ (⟨#[46]⟩ : ByteArray)).size + (a0.extract ((ji71) : Int).toNat ((wrap64 ((ji71) + (wrap64 (bt a0 x5_2)))) : Int).toNat).size ≤ 9223372036854775807
                                          · rw [if_pos c75] at H
                                            have c75b0 := eq_true c75
                                            have c75b1 : decide ((x132003_2 ++ (⟨#[46]⟩ : ByteArray)).size + (a0.extract ((ji71) : Int).toNat ((wrap64 ((ji71) + (wrap64 (bt a0 x5_2)))) : Int).toNat).size ≤ 9223372036854775807) = true := decide_eq_true c75
                                            try have c75b2 : (9223372036854775807 < (x132003_2 ++ (⟨#[46]⟩ : ByteArray)).size + (a0.extract ((ji71) : Int).toNat ((wrap64 ((ji71) + (wrap64 (bt a0 x5_2)))) : Int).toNat).size) = False := eq_false (Nat.not_lt.2 c75)
                                            try have c75b3 := c75b2
                                            try simp only [ByteArray.size_append, show (⟨#[46]⟩ : ByteArray).size = 1 from rfl] at c75b3
                                            try have c75b4 := c75b3
                                            try (rw [ByteArray.size_extract, Nat.min_eq_left] at c75b4; rotate_left; omega)
                                            try have c75b3 := c75b2
                                            try simp only [ByteArray.size_append, show (⟨#[46]⟩ : ByteArray).size = 1 from rfl] at c75b3
                                            have H' := Aside0.mk H
                                            clear H
                                            have hnb76 := NB131_128.out
                                            have hnc76 := NB128_131.out
                                            have hcz77_0 : wc.cell? ⟨gb131, 0, none⟩ = some (.int .i64 t130) := (blk_cell BK131.out 0).trans rfl
                                            have hcz77_1 : wc.cell? ⟨gb131, 1, none⟩ = some (.int .i64 0) := (blk_cell BK131.out 1).trans rfl
                                            have hcz77_2 : wc.cell? ⟨gb131, 2, none⟩ = some (.bool (decide ((bt a0 2) ≥ 128))) := (blk_cell BK131.out 2).trans rfl
                                            have hcz77_3 : wc.cell? ⟨gb131, 3, none⟩ = some (.string x132003_2) := (blk_cell BK131.out 3).trans rfl
                                            have hfz77_0 := blk_frozen BK131.out 0
                                            have hfz77_1 := blk_frozen BK131.out 1
                                            have hfz77_2 := blk_frozen BK131.out 2
                                            have hfz77_3 := blk_frozen BK131.out 3
                                            try go_wp2
                                            have n0_ : Aside0 ((wc.setCell ⟨gb131, 3, none⟩ (.string (x132003_2 ++ (⟨#[46]⟩ : ByteArray)))).heap[gb128]? = some (.cells #[.int .i64 x129000_2, .int .i64 x129001_2, .bool x129002_2, .string x129003_2] 44 (0, 0))) := ⟨by (with_reducible repeat (first | refine blk_drewN ?_ _ | refine blk_drew ?_ | refine blk_alloc ?_ _)); refine blk_far ?_ NB128_131.out _; (with_reducible repeat (first | refine blk_drewN ?_ _ | refine blk_drew ?_ | refine blk_alloc ?_ _)); exact BK128.out⟩
                                            have n1_ : Aside0 ((wc.setCell ⟨gb131, 3, none⟩ (.string (x132003_2 ++ (⟨#[46]⟩ : ByteArray)))).heap[gb131]? = some (.cells #[.int .i64 t130, .int .i64 0, .bool (decide ((bt a0 2) ≥ 128)), .string (x132003_2 ++ (⟨#[46]⟩ : ByteArray))] 44 (0, 0))) := ⟨by (with_reducible repeat (first | refine blk_drewN ?_ _ | refine blk_drew ?_ | refine blk_alloc ?_ _)); refine blk_put (cs := #[.int .i64 t130, .int .i64 0, .bool (decide ((bt a0 2) ≥ 128)), .string x132003_2]) ?_ 3 _ rfl; (with_reducible repeat (first | refine blk_drewN ?_ _ | refine blk_drew ?_ | refine blk_alloc ?_ _)); exact BK131.out⟩
                                            have n2_ : Aside0 (Below w.heap.size w (wc.setCell ⟨gb131, 3, none⟩ (.string (x132003_2 ++ (⟨#[46]⟩ : ByteArray))))) := ⟨by repeat (first | (with_reducible first | exact HB.out | apply below_alloc | apply pw_below_drewN | apply below_drew1 | refine below_set ?_ GE128.out | refine below_set ?_ GE131.out) | exact HB.out)⟩
                                            (try clear BK128)
                                            (try clear BK131)
                                            (try clear HB)
                                            generalize (wc.setCell ⟨gb131, 3, none⟩ (.string (x132003_2 ++ (⟨#[46]⟩ : ByteArray)))) = w78 at n0_ n1_ n2_ ⊢
                                            have BK128 := n0_
                                            have BK131 := n1_
                                            have HB := n2_
                                            clear n0_ n1_ n2_
                                            have n0_ := Aside0.mk (blk_drew BK128.out)
                                            have n1_ := Aside0.mk (blk_drew BK131.out)
                                            have n2_ := Aside0.mk (below_drew1 HB.out)
                                            clear BK128
                                            clear BK131
                                            clear HB
                                            have BK128 := n0_
                                            have BK131 := n1_
                                            have HB := n2_
                                            clear n0_ n1_ n2_
                                            refine start_ (n := 11) (S := fun w' => w'.cell? ⟨gb131, 0, none⟩ = some (.int .i64 t130) ∧ w'.cell? ⟨gb131, 1, none⟩ = some (.int .i64 0) ∧ w'.cell? ⟨gb131, 2, none⟩ = some (.bool (decide ((bt a0 2) ≥ 128))) ∧ w'.cell? ⟨gb131, 3, none⟩ = some (.string (x132003_2 ++ (⟨#[46]⟩ : ByteArray)))) (ds := [10]) #[false, false, false, false, false, false, false, false, false, false, false] (by kernel_rfl) rfl rfl ⟨(blk_cell BK131.out 0).trans rfl, (blk_cell BK131.out 1).trans rfl, (blk_cell BK131.out 2).trans rfl, (blk_cell BK131.out 3).trans rfl⟩ (fun hHeld => ?_); refine with_tabW spec_l03ReadDns.tab14 spec_l03ReadDns.bits14 (fun HT_ HW_ => ?_)
                                            generalize w78.drew = w79 at BK128 BK131 HB hHeld ⊢
                                            refine pure_ (i := 0) (N := some 55) (v := ?_) (a' := ?_) #[true, false, false, false, false, false, false, false, false, false, false] rfl rfl (any_of HT_.out (by kernel_rfl)) (fun _ _ _ h => h) (Or.inl ⟨by rfl, ?_⟩) ?_ ?_
                                            rotate_left
                                            · intro w'
                                              go_simp
                                              with_reducible rfl
                                            rotate_left
                                            · simp only [Act.put, List.setIfInBounds_toArray, List.set_cons_zero, List.set_cons_succ, i64_w, i32_w]
                                              rfl
                                            refine pure_ (i := 2) (N := some 57) (v := ?_) (a' := ?_) #[true, false, true, false, false, false, false, false, false, false, false] rfl rfl (any_of HT_.out (by kernel_rfl)) (fun _ _ _ h => h) (Or.inl ⟨by rfl, ?_⟩) ?_ ?_
                                            rotate_left
                                            · intro w'
                                              go_simp
                                              with_reducible rfl
                                            rotate_left
                                            · simp only [Act.put, List.setIfInBounds_toArray, List.set_cons_zero, List.set_cons_succ, i64_w, i32_w]
                                              rfl
                                            refine pure_ (i := 3) (N := some 58) (v := ?_) (a' := ?_) #[true, false, true, true, false, false, false, false, false, false, false] rfl rfl (any_of HT_.out (by kernel_rfl)) (fun _ _ _ h => h) (Or.inl ⟨by rfl, ?_⟩) ?_ ?_
                                            rotate_left
                                            · intro w'
                                              go_simp
                                              with_reducible rfl
                                            rotate_left
                                            · simp only [Act.put, List.setIfInBounds_toArray, List.set_cons_zero, List.set_cons_succ, i64_w, i32_w]
                                              rfl
                                            refine pure_ (i := 4) (N := some 59) (v := ?_) (a' := ?_) #[true, false, true, true, true, false, false, false, false, false, false] rfl rfl (any_of HT_.out (by kernel_rfl)) (fun _ _ _ h => h) (Or.inl ⟨by rfl, ?_⟩) ?_ ?_
                                            rotate_left
                                            · intro w'
                                              go_simp
                                              with_reducible rfl
                                            rotate_left
                                            · simp only [Act.put, List.setIfInBounds_toArray, List.set_cons_zero, List.set_cons_succ, i64_w, i32_w]
                                              rfl
                                            refine pure_ (i := 5) (N := some 60) (v := ?_) (a' := ?_) #[true, false, true, true, true, true, false, false, false, false, false] rfl rfl (any_of HT_.out (by kernel_rfl)) (fun _ _ _ h => h) (Or.inl ⟨by rfl, ?_⟩) ?_ ?_
                                            rotate_left
                                            · intro w'
                                              go_simp
                                              with_reducible rfl
                                            rotate_left
                                            · simp only [Act.put, List.setIfInBounds_toArray, List.set_cons_zero, List.set_cons_succ, i64_w, i32_w]
                                              rfl
                                            refine pure_ (i := 6) (N := some 61) (v := ?_) (a' := ?_) #[true, false, true, true, true, true, true, false, false, false, false] rfl rfl (any_of HT_.out (by kernel_rfl)) (fun _ _ _ h => h) (Or.inl ⟨by rfl, ?_⟩) ?_ ?_
                                            rotate_left
                                            · intro w'
                                              go_simp
                                              with_reducible rfl
                                            rotate_left
                                            · simp only [Act.put, List.setIfInBounds_toArray, List.set_cons_zero, List.set_cons_succ, i64_w, i32_w]
                                              rfl
                                            refine pure_ (i := 7) (N := some 62) (v := ?_) (a' := ?_) #[true, false, true, true, true, true, true, true, false, false, false] rfl rfl (any_of HT_.out (by kernel_rfl)) (fun _ _ _ h => h) (Or.inl ⟨by rfl, ?_⟩) ?_ ?_
                                            rotate_left
                                            · intro w'
                                              go_simp
                                              with_reducible rfl
                                            rotate_left
                                            · simp only [Act.put, List.setIfInBounds_toArray, List.set_cons_zero, List.set_cons_succ, i64_w, i32_w]
                                              rfl
                                            refine take_ (i := 1) (N := some 56) (v := ?_) (a' := ?_) #[true, true, true, true, true, true, true, true, false, false, false] rfl rfl (take_ofW HT_.out HW_.out (by kernel_rfl)) (fun _ _ _ h => h) (Or.inl ⟨by rfl, ?_⟩) hHeld ?_ ?_
                                            rotate_left
                                            · rintro w' ⟨s0, s1, s2, s3⟩
                                              go_simp
                                              with_reducible rfl
                                            rotate_left
                                            · simp only [Act.put, List.setIfInBounds_toArray, List.set_cons_zero, List.set_cons_succ, i64_w, i32_w]
                                              rfl
                                            refine pure_ (i := 8) (N := some 63) (v := ?_) (a' := ?_) #[true, true, true, true, true, true, true, true, true, false, false] rfl rfl (any_of HT_.out (by kernel_rfl)) (fun _ _ _ h => h) (Or.inl ⟨by rfl, ?_⟩) ?_ ?_
                                            rotate_left
                                            · intro w'
                                              go_simp
                                              with_reducible rfl
                                            rotate_left
                                            · simp only [Act.put, List.setIfInBounds_toArray, List.set_cons_zero, List.set_cons_succ, i64_w, i32_w]
                                              rfl
                                            refine pure_ (i := 9) (N := some 64) (v := ?_) (a' := ?_) #[true, true, true, true, true, true, true, true, true, true, false] rfl rfl (any_of HT_.out (by kernel_rfl)) (fun _ _ _ h => h) (Or.inl ⟨by rfl, ?_⟩) ?_ ?_
                                            rotate_left
                                            · intro w'
                                              go_simp
                                              with_reducible rfl
                                            rotate_left
                                            · simp only [Act.put, List.setIfInBounds_toArray, List.set_cons_zero, List.set_cons_succ, i64_w, i32_w]
                                              rfl
                                            refine last_ (i := 10) (N := none) #[true, true, true, true, true, true, true, true, true, true, true] rfl rfl (one_of HT_.out (by kernel_rfl)) (by decide) (fun K hK => ?_)
                                            have hs80 : w79.cell? ⟨gb131, 3, none⟩ = some (.string (x132003_2 ++ (⟨#[46]⟩ : ByteArray))) := (blk_cell BK131.out 3).trans rfl
                                            have hfs80 := blk_frozen BK131.out 3
                                            have hns80_0 := NB128_131.out
                                            have hms80_0 := NB131_128.out
                                            refine skip_ (w1 := ?_) (by rfl) rfl ?_ ?_
                                            rotate_left
                                            · go_simp
                                              rfl
                                            refine hK.out _ _ ?_
                                            clear hK K
                                            refine done_ (done_of HT_.out (by kernel_rfl)) ?_
                                            try go_wp2
                                            go_roundg kj54
                                            case measure => have := HJ1.out; have := HK2.out; have := HJ54.out; omega
                                            case rel => exact ⟨(wrap64 ((ji71) + (wrap64 (bt a0 x5_2)))), (x129000_2), (x129001_2), (x129002_2), (x129003_2), ((x132003_2 ++ (⟨#[46]⟩ : ByteArray)) ++ (a0.extract ((ji71) : Int).toNat ((wrap64 ((ji71) + (wrap64 (bt a0 x5_2)))) : Int).toNat)), (by first | rfl | (simp; done) | (simp only [← hji71] <;> (first | rfl | simp)) | (simp [*]; done)), H', ⟨by have := HJ1.out; have := HK2.out; have := HJ54.out; omega⟩, ⟨by (with_reducible repeat (first | refine blk_drewN ?_ _ | refine blk_drew ?_ | refine blk_alloc ?_ _)); refine blk_far ?_ NB128_131.out _; (with_reducible repeat (first | refine blk_drewN ?_ _ | refine blk_drew ?_ | refine blk_alloc ?_ _)); exact BK128.out⟩, ⟨by (with_reducible repeat (first | refine blk_drewN ?_ _ | refine blk_drew ?_ | refine blk_alloc ?_ _)); refine blk_put (cs := #[.int .i64 t130, .int .i64 0, .bool (decide ((bt a0 2) ≥ 128)), .string (x132003_2 ++ (⟨#[46]⟩ : ByteArray))]) ?_ 3 _ rfl; (with_reducible repeat (first | refine blk_drewN ?_ _ | refine blk_drew ?_ | refine blk_alloc ?_ _)); exact BK131.out⟩, ⟨by repeat (first | (with_reducible first | exact HB.out | apply below_alloc | apply pw_below_drewN | apply below_drew1 | refine below_set ?_ GE128.out | refine below_set ?_ GE131.out) | exact HB.out)⟩⟩
                                          · rw [if_neg c75] at H
                                            exact absurd H (by simp)
                                        · rw [if_neg c74] at H
                                          exact absurd H (by simp)
                                      · rw [if_neg c73] at H
                                        exact absurd H (by simp)
                                    · rw [if_neg c72] at H
                                      exact absurd H (by simp)
                                  · rw [if_neg c70] at H
                                    exact absurd H (by simp)
                      · rw [if_neg c26] at H
                        exact absurd H (by simp)
                    · rw [if_neg c25] at H
                      exact absurd H (by simp)
            · rw [if_neg c13] at H
              exact absurd H (by simp)
          · rw [if_neg c11] at H
            exact absurd H (by simp)
        · rw [if_neg c10] at H
          exact absurd H (by simp)

end Go.Proofs.YtpnbhgoblgbdkaaDoor.PDr
