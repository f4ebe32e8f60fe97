/- The walk of impl.sha, part 3: SHA-256 over arrays, a range over slices.Chunk (by hand, over the print of impl.num and impl.be). Nothing here is trusted: it is checked. -/
import Derived.Test.YtohlocmdpdghiaaDoorZHfS2
namespace Go.Proofs.YtohlocmdpdghiaaDoor.Sha
open Go.RowKit Go.Proofs.YtohlocmdpdghiaaDoor.PHn Go.Proofs.YtohlocmdpdghiaaDoorW.PrintWords Go.Proofs.YtohlocmdpdghiaaDoorW.PrintLast Go.Proofs.YtohlocmdpdghiaaDoorW.PrintMore
set_option linter.unusedVariables false
set_option linter.unusedSimpArgs false
def addk (hs v : List Int) : Nat → List Int
  | 0 => hs
  | k + 1 => (addk hs v k).set k (IntKind.u32.wrap (rd (addk hs v k) k + rd v k))
theorem addk_length (hs v : List Int) : ∀ k, (addk hs v k).length = hs.length
  | 0 => rfl
  | k + 1 => by simp [addk, addk_length hs v k]
theorem grown_of_below {w w' : World} {B : Nat} {row : Option Nat} (h : Below B w w') (hB : w.heap.size ≤ B) : w.grownBy w' row := ⟨h.os, h.tape, h.output, h.size, fun k hk _ => h.block k (by omega)⟩
theorem grown_trans {w w1 w2 : World} {row : Option Nat} (h : w.grownBy w1 row) (k : w1.grownBy w2 row) : w.grownBy w2 row :=
  ⟨k.os.trans h.os, k.tape.trans h.tape, k.output.trans h.output, Nat.le_trans h.size k.size, fun i hi hn => (k.block i (Nat.lt_of_lt_of_le hi h.size) hn).trans (h.block i hi hn)⟩
theorem grown_set (w : World) (g j : Nat) (v : Value) : w.grownBy (w.setCell ⟨g, j, none⟩ v) (some g) :=
  ⟨rfl, rfl, rfl, by simp [World.setCell], fun i hi hn => Below.heap_setCell w _ v i (fun e => hn (by rw [e]))⟩
theorem grown_drew {w w1 : World} {row : Option Nat} (h : w.grownBy w1 row) : w.grownBy w1.drew row := ⟨h.os, h.tape, h.output, h.size, h.block⟩
def behind : Code → Code
  | .seq _ c => c
  | c => c
def rOne (tab ws v : List Int) (k : Nat) : Int :=
  IntKind.u32.wrap (IntKind.u32.wrap (IntKind.u32.wrap (IntKind.u32.wrap (rd v 7 + Go.bits .xor .u32 (Go.bits .xor .u32 (rgt (rd v 4) 6) (rgt (rd v 4) 11)) (rgt (rd v 4) 25)) + Go.bits .xor .u32 (Go.bits .and .u32 (rd v 4) (rd v 5)) (Go.bits .and .u32 (Go.bits .xor .u32 IntKind.u32.max (rd v 4)) (rd v 6))) + rd tab k) + rd ws k)
def rTwo (v : List Int) : Int :=
  IntKind.u32.wrap (Go.bits .xor .u32 (Go.bits .xor .u32 (rgt (rd v 0) 2) (rgt (rd v 0) 13)) (rgt (rd v 0) 22) + Go.bits .xor .u32 (Go.bits .xor .u32 (Go.bits .and .u32 (rd v 0) (rd v 1)) (Go.bits .and .u32 (rd v 0) (rd v 2))) (Go.bits .and .u32 (rd v 1) (rd v 2)))
def rnd (tab ws v : List Int) (k : Nat) : List Int :=
  [IntKind.u32.wrap (rOne tab ws v k + rTwo v), rd v 0, rd v 1, rd v 2, IntKind.u32.wrap (rd v 3 + rOne tab ws v k), rd v 4, rd v 5, rd v 6]
def rnds (tab ws hs : List Int) : Nat → List Int
  | 0 => hs
  | k + 1 => rnd tab ws (rnds tab ws hs k) k
theorem rnds_length (tab ws hs : List Int) (hl : hs.length = 8) : ∀ k, (rnds tab ws hs k).length = 8
  | 0 => hl
  | k + 1 => rfl
set_option maxHeartbeats 4000000 in
set_option maxRecDepth 100000 in
theorem block_tail (u1 u2 u3 u5 u6 u7 u8 u9 u10 u11 u12 u13 u14 u15 u16 u17 u18 u19 u20 u21 u22 u23 u24 u25 u26 u27 u28 u29 u30 u31 u32 u33 u34 u35 u36 u37 u38 u39 u40 u41 u42 u43 u44 u45 u46 u47 u48 u49 u50 u51 u52 u53 u54 u55 u56 u57 u58 u59 u60 u61 u62 u63 u64 u65 u66 u67 u68 u69 u70 u71 u72 u73 u74 u75 u76 u77 u78 u79 u80 u81 u82 u83 u84 u85 u86 u87 u88 u89 u90 u91 u92 u93 u94 u95 u96 u97 u98 u99 u100 u101 u102 u103 u104 u105 u106 u107 u108 u109 u110 u111 u112 u113 u114 u115 u116 u117 u118 u119 u120 u121 u122 u123 u124 u125 u126 u127 u128 u129 u130 u131 u132 u133 u134 u135 u136 u137 u138 u139 u140 u141 u142 u143 u144 u145 u146 u147 u148 u149 u150 u151 u152 u153 u154 u155 u156 u157 u158 u159 u160 u161 u162 u163 u164 u165 u166 u167 u168 u169 u170 u171 : Value) (g G : Nat) (hs ws tab : List Int) (hl : hs.length = 8) (wl : ws.length = 64) (htl : tab.length = 64) (tt : TypeId) (fr : Nat × Nat) (w : World)
    (hh : w.heap[g]? = some (.cells (u32s hs) 57 (0, 0))) (hG : w.heap[G]? = some (.cells (u32s ws) 70 (0, 0))) (ht : w.heap[0]? = some (.cells (u32s tab) tt fr)) (Q : Exit → Act → World → Prop) (hQ : ∀ a w', a.defers = [] → w'.heap[g]? = some (.cells (u32s (addk hs (rnds tab ws hs 64) 8)) 57 (0, 0)) → w.grownBy w' (some g) → Q .normal a w') :
    Code.wp Tryd.prog (behind (behind (Tryd.f41.body.getD .skip))) Q { tmps := #[.pointer (some ⟨g, 0, none⟩), u1, u2, u3, .pointer (some ⟨G, 0, none⟩), u5, u6, u7, u8, u9, u10, u11, u12, u13, u14, u15, u16, u17, u18, u19, u20, u21, u22, u23, u24, u25, u26, u27, u28, u29, u30, u31, u32, u33, u34, u35, u36, u37, u38, u39, u40, u41, u42, u43, u44, u45, u46, u47, u48, u49, u50, u51, u52, u53, u54, u55, u56, u57, u58, u59, u60, u61, u62, u63, u64, u65, u66, u67, u68, u69, u70, u71, u72, u73, u74, u75, u76, u77, u78, u79, u80, u81, u82, u83, u84, u85, u86, u87, u88, u89, u90, u91, u92, u93, u94, u95, u96, u97, u98, u99, u100, u101, u102, u103, u104, u105, u106, u107, u108, u109, u110, u111, u112, u113, u114, u115, u116, u117, u118, u119, u120, u121, u122, u123, u124, u125, u126, u127, u128, u129, u130, u131, u132, u133, u134, u135, u136, u137, u138, u139, u140, u141, u142, u143, u144, u145, u146, u147, u148, u149, u150, u151, u152, u153, u154, u155, u156, u157, u158, u159, u160, u161, u162, u163, u164, u165, u166, u167, u168, u169, u170, u171], defers := [] } w := by
  have HQ := Aside0.mk hQ
  clear hQ
  have HH := Aside0.mk hh
  have HG := Aside0.mk hG
  have HT := Aside0.mk ht
  clear hh hG ht
  obtain ⟨Z8, hZ8⟩ : ∃ Z, Z = u32s (List.replicate 8 0) := ⟨_, rfl⟩
  have hz8 : Z8.size = 8 := by rw [hZ8, u32s_size]; rfl
  have HZ8 := Aside0.mk hZ8
  clear hZ8
  have hg9 := HH.out
  dsimp only [behind, Tryd.f41, Option.getD]
  go_wp2_with (first
    | ((with_reducible refine gate_dst (N := 74) rfl ?_); refine wpList_load_row rfl 57 (.tmp 73) rfl g rfl 57 _ (0, 0) _ hg9 Tryd.underlying57 rfl (by rw [u32s_size, hl]; exact size57) ?_; clear hg9)
    | ((with_reducible refine gate_dst (N := 8) rfl ?_); refine box_event ?hg (N := 8) ?hd (cs := Z8) (t := 57) ?hr ?_; (case hd => rfl); (case hg => rfl); (case hr => (rw [HZ8.out]; first | (go_simp; done) | (go_simp; rfl))); intro V hV0 w5 hbox5 hB5; have hV := Aside0.mk hV0; clear hV0)
    | ((with_reducible refine gate_store (t := 57) rfl ?_); refine ev_store rfl 57 (.tmp 8) (.tmp 74) rfl rfl _ _ rfl rfl 57 _ hbox5 (by rw [u32s_size, hl]; exact size57) (by rw [u32s_size, hl, hz8]) (u32s_one _) ?_; intro w6 hb6 hg6; have h06 := Aside0.mk ((hg6.block 0 (Nat.lt_of_lt_of_le (blk_lt HT.out) hB5.size) (by intro e; injection e with e; have := blk_lt HT.out; have := hV.out; omega)).trans ((hB5.block 0 (blk_lt HT.out)).trans HT.out)))
    | ((with_reducible refine gate_dst (N := 75) rfl ?_); refine wpList_load_row rfl 70 (.global 0) rfl 0 rfl tt _ fr _ h06.out Tryd.underlying70 rfl (by rw [u32s_size, htl]; exact size70) ?_))
  have hb5 : w5.heap[G]? = some (.cells (u32s ws) 70 (0, 0)) := (hB5.block G (blk_lt HG.out)).trans HG.out
  have hGV : G ≠ V := by have := blk_lt HG.out; have := hV.out; omega
  have hb6G : w6.heap[G]? = some (.cells (u32s ws) 70 (0, 0)) := (hg6.block G (blk_lt hb5) (by intro e; injection e with e; exact hGV e)).trans hb5
  have hB6 : Below w.heap.size w w6 := hB5.grown hg6 hB5.size (fun k e => by cases e; rw [hV.out]; exact Nat.le_refl _)
  have H6 := Aside0.mk hb6
  have G6 := Aside0.mk hb6G
  have B6 := Aside0.mk hB6
  have hGV' := Aside0.mk hGV
  clear hb6 hb6G hB6 hg6 hbox5 hB5 hb5 h06 hGV
  obtain ⟨K75, hK75⟩ : ∃ K, K = u32s tab := ⟨_, rfl⟩
  have hki : ∀ k : Nat, k < 64 → K75[k]? = some (.int .u32 (rd tab k)) := by
    intro k hk
    rw [hK75]
    simp [u32s, rd, List.getD, List.getElem?_eq_getElem (show k < tab.length by omega)]
  rw [← hK75]
  clear hK75
  have hK := Aside0.mk hki
  clear hki
  go_loopw [76] (fun i wr => ∃ k : Nat, k ≤ 64 ∧ i = .int .i64 k ∧ wr.heap[V]? = some (.cells (u32s (rnds tab ws hs k)) 57 (0, 0)) ∧ wr.heap[G]? = some (.cells (u32s ws) 70 (0, 0)) ∧ Below w.heap.size w wr)
    (fun i _ => 64 - (intOf i).toNat)
  case atStart => exact ⟨0, by omega, rfl, H6.out, G6.out, B6.out⟩
  case round =>
    obtain ⟨k, hk, rfl, hbV, hbG, hB⟩ := hrel
    have HB := Aside0.mk hB
    have HV := Aside0.mk hbV
    have HGk := Aside0.mk hbG
    clear hB hbV hbG
    obtain ⟨v, hv⟩ : ∃ v, v = rnds tab ws hs k := ⟨_, rfl⟩
    have vl : v.length = 8 := by rw [hv, rnds_length _ _ _ hl]
    rw [← hv] at HV
    have Hv := Aside0.mk hv
    clear hv
    by_cases h64k : k < 64
    · have hkk := run_index_in 70 64 K75 k (rd tab k) Tryd.underlying70 h64k (hK.out k h64k)
      have hc0 := u32s_at HV.out 0 (by omega)
      have hc4 := u32s_at HV.out 4 (by omega)
      go_wp2
      refine wp_region_still_lit (by kernel_rfl) (by kernel_rfl) ?_
      repeat still_step
      refine wpStill_nil ?_
      clear hc0 hc4
      obtain ⟨wa, hwa⟩ : ∃ w_, w_ = wr.drew := ⟨_, rfl⟩
      have hV_ : wa.heap[V]? = some (.cells (u32s v) 57 (0, 0)) := by rw [hwa]; exact HV.out
      have hG_ : wa.heap[G]? = some (.cells (u32s ws) 70 (0, 0)) := by rw [hwa]; exact HGk.out
      have hB_ : Below w.heap.size w wa := by rw [hwa]; exact below_drew1 HB.out
      change Exit.then _ _ _ _ wr.drew
      rw [← hwa]
      have HVwa := Aside0.mk hV_
      have HGwa := Aside0.mk hG_
      have HBwa := Aside0.mk hB_
      clear hwa hV_ hG_ hB_
      have hc7 := u32s_at HVwa.out 7 (by omega)
      have hc5 := u32s_at HVwa.out 5 (by omega)
      have hc6 := u32s_at HVwa.out 6 (by omega)
      have hck := u32s_at HGwa.out k (by omega)
      have q64 : ((k : Int) < 64) = True := eq_true (by omega)
      go_wp2
      refine wp_region_still_lit (by kernel_rfl) (by kernel_rfl) ?_
      repeat still_step
      still_call (right_6 _ _)
      repeat still_step
      still_call (right_11 _ _)
      repeat still_step
      still_call (right_25 _ _)
      repeat still_step
      refine wpStill_nil ?_
      clear hc7 hc5 hc6 hck
      obtain ⟨wb, hwb⟩ : ∃ w_, w_ = wa.drew := ⟨_, rfl⟩
      have hV_ : wb.heap[V]? = some (.cells (u32s v) 57 (0, 0)) := by rw [hwb]; exact HVwa.out
      have hG_ : wb.heap[G]? = some (.cells (u32s ws) 70 (0, 0)) := by rw [hwb]; exact HGwa.out
      have hB_ : Below w.heap.size w wb := by rw [hwb]; exact below_drew1 HBwa.out
      change Exit.then _ _ _ _ wa.drew
      rw [← hwb]
      have HVwb := Aside0.mk hV_
      have HGwb := Aside0.mk hG_
      have HBwb := Aside0.mk hB_
      clear hwb hV_ hG_ hB_
      have hc1 := u32s_at HVwb.out 1 (by omega)
      have hc2 := u32s_at HVwb.out 2 (by omega)
      go_wp2
      refine wp_region_still_lit (by kernel_rfl) (by kernel_rfl) ?_
      repeat still_step
      still_call (right_2 _ _)
      repeat still_step
      still_call (right_13 _ _)
      repeat still_step
      still_call (right_22 _ _)
      repeat still_step
      refine wpStill_nil ?_
      clear hc1 hc2
      obtain ⟨wc, hwc⟩ : ∃ w_, w_ = wb.drew := ⟨_, rfl⟩
      have hV_ : wc.heap[V]? = some (.cells (u32s v) 57 (0, 0)) := by rw [hwc]; exact HVwb.out
      have hG_ : wc.heap[G]? = some (.cells (u32s ws) 70 (0, 0)) := by rw [hwc]; exact HGwb.out
      have hB_ : Below w.heap.size w wc := by rw [hwc]; exact below_drew1 HBwb.out
      change Exit.then _ _ _ _ wb.drew
      rw [← hwc]
      have HVwc := Aside0.mk hV_
      have HGwc := Aside0.mk hG_
      have HBwc := Aside0.mk hB_
      clear hwc hV_ hG_ hB_
      have hc0 := u32s_at HVwc.out 0 (by omega)
      have hc1 := u32s_at HVwc.out 1 (by omega)
      have hc2 := u32s_at HVwc.out 2 (by omega)
      have hc3 := u32s_at HVwc.out 3 (by omega)
      have hc4 := u32s_at HVwc.out 4 (by omega)
      have hc5 := u32s_at HVwc.out 5 (by omega)
      have hc6 := u32s_at HVwc.out 6 (by omega)
      obtain ⟨t1, ht1⟩ : ∃ t, t = rOne tab ws v k := ⟨_, rfl⟩
      obtain ⟨t2, ht2⟩ : ∃ t, t = rTwo v := ⟨_, rfl⟩
      have HT1 := Aside0.mk ht1
      have HT2 := Aside0.mk ht2
      unfold rOne at ht1
      unfold rTwo at ht2
      rw [← ht1, ← ht2]
      clear ht1 ht2
      have hbc := HVwc.out
      go_wp2_with (first
        | ((with_reducible refine gate_store (t := 57) rfl ?_); refine ev_store rfl 57 (.tmp 8) (.tmp 155) rfl rfl _ (u32s [IntKind.u32.wrap (t1 + t2), rd v 0, rd v 1, rd v 2, IntKind.u32.wrap (rd v 3 + t1), rd v 4, rd v 5, rd v 6]) rfl rfl 57 _ hbc (by rw [u32s_size]; exact size57) (by rw [u32s_size, u32s_size, vl]; rfl) (u32s_one _) ?_; intro wd hbd hgd))
      refine ⟨⟨k + 1, by omega, by simp, ?_, (hgd.block G (blk_lt HGwc.out) (by intro e; injection e with e; exact hGV'.out e)).trans HGwc.out, HBwc.out.grown hgd HBwc.out.size (fun k e => by cases e; rw [hV.out]; exact Nat.le_refl _)⟩, by simp [intOf]; omega⟩
      show _ = some (Obj.cells (u32s (rnd tab ws (rnds tab ws hs k) k)) 57)
      rw [← Hv.out]
      unfold rnd
      rw [← HT1.out, ← HT2.out]
      exact hbd
    · obtain rfl : k = 64 := by omega
      have hbe := HV.out
      go_wp2_with (first
        | ((with_reducible refine gate_dst (N := 157) rfl ?_); refine wpList_load_row rfl 57 (.tmp 8) rfl V rfl 57 _ (0, 0) _ hbe Tryd.underlying57 rfl (by rw [u32s_size, vl]; exact size57) ?_; clear hbe))
      obtain ⟨K57, hK57⟩ : ∃ K, K = u32s v := ⟨_, rfl⟩
      have hki : ∀ k : Nat, k < 8 → K57[k]? = some (.int .u32 (rd v k)) := by
        intro k hk
        rw [hK57]
        simp [u32s, rd, List.getD, List.getElem?_eq_getElem (show k < v.length by omega)]
      rw [← hK57]
      have hK2 := Aside0.mk hki
      clear hK57 hki hK
      have hgx : wr.heap[g]? = some (.cells (u32s hs) 57 (0, 0)) := (HB.out.block g (blk_lt HH.out)).trans HH.out
      have HGX := Aside0.mk hgx
      clear hgx
      go_loopw [158] (fun i wz => ∃ k : Nat, k ≤ 8 ∧ i = .int .i64 k ∧ wz.heap[g]? = some (.cells (u32s (addk hs v k)) 57 (0, 0)) ∧ w.grownBy wz (some g))
        (fun i _ => 8 - (intOf i).toNat)
      case atStart => exact ⟨0, by omega, rfl, HGX.out, grown_of_below HB.out (Nat.le_refl _)⟩
      case round =>
        obtain ⟨k, hk, rfl, hbg, hgw⟩ := hrel
        have HG3 := Aside0.mk hbg
        have HW3 := Aside0.mk hgw
        clear hbg hgw
        have al := addk_length hs v k
        by_cases h8 : k < 8
        · have hkk := run_index_in 57 8 K57 k (rd v k) Tryd.underlying57 h8 (hK2.out k h8)
          have hck := u32s_at HG3.out k (by omega)
          have q8 : ((k : Int) < 8) = True := eq_true (by omega)
          go_wp2
          go_still_tail 9, (by kernel_rfl)
          clear hck
          obtain ⟨we, hwe⟩ : ∃ w_, w_ = wr.drew := ⟨_, rfl⟩
          have hG_ : we.heap[g]? = some (.cells (u32s (addk hs v k)) 57 (0, 0)) := by rw [hwe]; exact HG3.out
          have hB_ : w.grownBy we (some g) := by rw [hwe]; exact grown_drew HW3.out
          change wpList _ _ _ _ _ wr.drew
          rw [← hwe]
          have HGe := Aside0.mk hG_
          have HWe := Aside0.mk hB_
          clear hwe hG_ hB_
          have hck := u32s_at HGe.out k (by omega)
          have hfk := blk_frozen HGe.out k
          go_wp2
          refine ⟨⟨k + 1, by omega, by simp, ?_, grown_trans HWe.out (grown_set _ _ _ _)⟩, by simp [intOf]; omega⟩
          exact u32s_put HGe.out k _
        · obtain rfl : k = 8 := by omega
          go_wp2
          rw [Hv.out] at HG3
          exact HQ.out _ _ rfl HG3.out HW3.out
end Go.Proofs.YtohlocmdpdghiaaDoor.Sha
