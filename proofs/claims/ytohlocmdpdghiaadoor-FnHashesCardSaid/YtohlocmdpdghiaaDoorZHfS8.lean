/- The walk of impl.sha, part 8: SHA-256 over arrays, a range over slices.Chunk (by hand, over the print of impl.num and impl.be). Nothing here is trusted: it is checked. -/
import Derived.Test.YtohlocmdpdghiaaDoorZHfS7
namespace Go.Proofs.YtohlocmdpdghiaaDoor.Sha
open Go.RowKit Go.Proofs.YtohlocmdpdghiaaDoor.PHn Go.Shelf Go.Proofs.YtohlocmdpdghiaaDoorW.PrintWords Go.Proofs.YtohlocmdpdghiaaDoorW.PrintLast Go.Proofs.YtohlocmdpdghiaaDoorW.PrintMore
set_option linter.unusedVariables false
set_option linter.unusedSimpArgs false
attribute [local go_sem] w64_u8 w64_u8_4 max2_int min2_int max_two min_two max_three min_three max_four min_four
theorem built57H : Tryd.prog.built 57 [(0, .int .u32 1779033703), (1, .int .u32 3144134277), (2, .int .u32 1013904242), (3, .int .u32 2773480762), (4, .int .u32 1359893119), (5, .int .u32 2600822924), (6, .int .u32 528734635), (7, .int .u32 1541459225)] = some (u32s H0) := by kernel_rfl
set_option maxRecDepth 100000 in
set_option maxHeartbeats 8000000 in
theorem sha_calls (A0 : Option Addr) (c0 : Nat) (l0 : List Int) (w : World) (hr0 : Kd.C (Kd.int .u8) w A0 l0.length l0) (hc0 : l0.length ≤ c0) (hby : ∀ x ∈ l0, 0 ≤ x ∧ x < 256) (hlen : l0.length ≤ 1000000)
    (tab : List Int) (htl : tab.length = 64) (tt : TypeId) (fr : Nat × Nat) (ht : w.heap[0]? = some (.cells (u32s tab) tt fr)) :
    Calls Tryd.prog 22 #[.slice A0 l0.length c0] w fun e w' => e = .returned (.string (shaS tab l0)) ∧ Below w.heap.size w w' := by
  refine (callsIn_wide (n := 100)).1 ?_
  refine callsIn_of_wp_marks Tryd.func22 rfl trivial ?_ rfl
  refine wpIn_wide.2 ?_
  simp only [Tryd.ntmps22, List.size_toArray, List.length_cons, List.length_nil, Nat.reduceAdd, Nat.reduceSub, Array.replicate_succ, Array.replicate_zero, List.push_toArray, List.append_toArray, List.nil_append, List.cons_append]
  have HR0 := Aside0.mk hr0
  have HT := Aside0.mk ht
  clear hr0 ht
  obtain ⟨Z8, hZ8⟩ : ∃ Z, Z = u32s (List.replicate 8 0) := ⟨_, rfl⟩
  have hz8 : Z8.size = 8 := by rw [hZ8, u32s_size]; rfl
  have HZ8 := Aside0.mk hZ8
  obtain ⟨ZH, hZH⟩ : ∃ Z, Z = u32s H0 := ⟨_, rfl⟩
  have hb57 := built57H
  rw [← hZH] at hb57
  have hzh : ZH.size = 8 := by rw [hZH, u32s_size]; rfl
  have hz1 : ZH.all (·.oneCell') = true := by rw [hZH]; exact u32s_one _
  have HZH := Aside0.mk hZH
  have HB57 := Aside0.mk hb57
  clear hZ8 hZH hb57
  go_wp2_with (first
    | ((with_reducible refine gate_dst (N := 9) rfl ?_); refine ev_build rfl 57 _ rfl ZH (by rw [List.map_toArray]; exact HB57.out) ?_)
    | ((with_reducible refine gate_dst (N := 3) rfl ?_); refine box_event ?hg (N := 3) ?hd (cs := Z8) (t := 57) ?hr ?_; (case hd => rfl); (case hg => rfl); (case hr => (rw [HZ8.out]; first | (go_simp; done) | (go_simp; rfl))); intro g hg0 w0 hbox hB0; have hG := Aside0.mk hg0; clear hg0)
    | ((with_reducible refine gate_store (t := 57) rfl ?_); refine ev_store rfl 57 (.tmp 3) (.tmp 9) rfl rfl _ _ rfl rfl 57 _ hbox (by rw [hzh]; exact size57) (by rw [hz8, hzh]) hz1 ?_; intro w1 hb1 hg1;
        have hB1 := Aside0.mk (show Below w.heap.size w w1 from hB0.grown hg1 hB0.size (fun k e => by cases e; rw [hG.out]; exact Nat.le_refl _)); have hH1 := Aside0.mk hb1; clear hbox hB0 hb1 hg1))
  refine (clone38 A0 c0 l0 _ (Kd.C_below HR0.out hB1.out) hc0 (by omega)).mono ?_
  rintro e w2 ⟨v2, rfl, ho, hb⟩
  have HO := Aside0.mk ho
  have HB := Aside0.mk hb
  clear ho hb
  go_wp2_with (first
    | ((with_reducible refine gate_builtin (b := .append) (xs := #[.tmp 11, .tmp 12]) rfl ?_); at_builtin; refine Kd.R_append (Kd.int .u8) (w0 := w1) w1.heap.size rfl (.tmp 11) (.tmp 12) 22 5 (.int .u8 0) 1 rfl Tryd.underlying22 info5 rfl (by decide) (by omega) v2 l0 128 [.int .u8 128] (fun _ => True) (fun _ => False) rfl rfl ?aP (fun _ hk => hk.elim) ?aF ?aO ?aB ?aS ?aL ?_; (case aP => exact rfl); (case aB => exact (by repeat (first | (with_reducible first | exact HB.out | apply below_alloc | apply pw_below_drewN | apply below_drew1) | exact HB.out))); (case aF => exact (fun _ _ => trivial)); (case aO => exact (by (with_reducible repeat (first | apply Kd.R_alloc | apply Kd.R_drewN | apply Kd.R_drew)); exact HO.out)); (case aS => exact (below_size (by repeat (first | (with_reducible first | exact HB.out | apply below_alloc | apply pw_below_drewN | apply below_drew1) | exact HB.out)))); (case aL => omega); intro v3 w3 ho hb hg hat; have n1_ := Aside0.mk hb; have n2_ := Aside0.mk ho; clear HB HO; have HB := n1_; have HO := n2_; clear n1_ n2_ ho hb hg hat))
  have HOp := Aside0.mk (show Kd.R (Kd.int .u8) 5 w3 w1.heap.size (fun _ => True) v3 (pad l0 0) from by show Kd.R _ _ _ _ _ _ (l0 ++ [128] ++ []); rw [List.append_nil]; exact HO.out)
  clear HO
  go_loopg [4] (padN l0.length + 1) (fun kq v4 wr => ∃ j : Nat, kq + j = padN l0.length + 1 ∧ j ≤ padN l0.length ∧ Aside0 (Kd.R (Kd.int .u8) 5 wr w1.heap.size (fun _ => True) v4 (pad l0 j)) ∧ Aside0 (Below w1.heap.size w1 wr))
  case atStart => exact ⟨0, by omega, by omega, HOp, HB⟩
  case round =>
    clear HOp HB
    obtain ⟨j, hj, hjp, HO, HB⟩ := hrel
    cases gk with
    | zero =>
      omega
    | succ k1 =>
      obtain ⟨x, hx⟩ : ∃ x, x = pad l0 j := ⟨_, rfl⟩
      have XL := Aside0.mk (show x.length = l0.length + 1 + j from by rw [hx, pad_length])
      rw [← hx] at HO
      obtain ⟨Ao, co, eo⟩ := Kd.R_slice HO.out
      subst eo
      have HX := Aside0.mk hx
      clear hx
      by_cases h56 : ((x.length : Int) % 64) = 56
      · have c0b0 : (((x.length : Int) % 64) == 56) = true := beq_iff_eq.mpr h56
        have c0b1 : (((x.length : Int) % 64) != 56) = false := bne_eq_false_iff_eq.mpr h56
        have hjJ : j = padN l0.length := by have := XL.out; unfold padN at hjp ⊢; omega
        have hbe := impl_be.calls 9 (8 * (l0.length : Int)) 8 _ wr (be_8 _)
        have w8 : IntKind.i64.wrap (8 * (l0.length : Int)) = 8 * (l0.length : Int) := IntWalk.i64_in _ (by omega)
        have HBE := Aside0.mk hbe
        have HJ := Aside0.mk hjJ
        clear hbe hj hjp hjJ
        go_wp2_with (first
          | (refine HBE.out.mono ?_; rintro e w6 ⟨v6, rfl, ho, hb⟩; have HO6 := Aside0.mk (Kd.R_lower (Kd.R_new' ho (Kd.R_lt HO.out)) (below_size HB.out)); have n1_ := Aside0.mk (Kd.R_below HO.out hb); have n2_ := Aside0.mk (below_step HB.out hb); clear HO HB HBE; have HO := n1_; have HB := n2_; clear n1_ n2_ ho hb; obtain ⟨A6, c6, e6⟩ := Kd.R_slice HO6.out; subst e6)
          | ((with_reducible refine gate_builtin (b := .append) (xs := #[.tmp 21, .tmp 25]) rfl ?_); at_builtin; refine Kd.R_append_rows (Kd.int .u8) (w0 := w1) w1.heap.size rfl (.tmp 21) (.tmp 25) 22 5 (.int .u8 0) 1 rfl Tryd.underlying22 info5 rfl (by decide) (by omega) (.slice Ao x.length co) x (be8 (8 * (l0.length : Int))) _ _ _ (fun _ => True) (fun _ => False) rfl rfl ?aO ?aR (fun _ _ h => h) (fun _ h => h.elim) ?aF ?aB ?aS ?aL ?_; (case aR => exact (Kd.R_reads' HO6.out).2.2); (case aB => exact (by repeat (first | (with_reducible first | exact HB.out | apply below_alloc | apply pw_below_drewN | apply below_drew1) | exact HB.out))); (case aF => exact (fun _ _ => trivial)); (case aO => exact HO.out); (case aS => exact (below_size (by repeat (first | (with_reducible first | exact HB.out | apply below_alloc | apply pw_below_drewN | apply below_drew1) | exact HB.out)))); (case aL => have := XL.out; have := HJ.out; unfold padN at *; simp only [be8, List.length_cons, List.length_nil]; omega); intro v7 w7 ho hb hg hat; have n1_ := Aside0.mk hb; have n2_ := Aside0.mk ho; clear HB HO HO6; have HB := n1_; have HO := n2_; clear n1_ n2_ ho hb hg hat))
        obtain ⟨all, hall⟩ : ∃ all, all = shaAll l0 := ⟨_, rfl⟩
        have HOA := Aside0.mk (show Kd.R (Kd.int .u8) 5 w7 w1.heap.size (fun _ => True) v7 all from by rw [hall]; show Kd.R _ _ _ _ _ _ (pad l0 (padN l0.length) ++ be8 _); rw [← HJ.out, ← HX.out]; exact HO.out)
        have hal : all.length = 64 * shaM l0.length := by rw [hall, shaAll_length]
        obtain ⟨m, hm⟩ : ∃ m, m = shaM l0.length := ⟨_, rfl⟩
        have hm0 : 1 ≤ m ∧ m ≤ 1000000 := by rw [hm]; unfold shaM padN; omega
        have hall_by : ∀ x ∈ all, 0 ≤ x ∧ x < 256 := by rw [hall]; exact shaAll_by hby
        rw [← hm] at hal
        clear HO
        obtain ⟨b, cap, rfl, hbase, hblt, _⟩ := Kd.R_form HOA.out (by omega)
        have hcap := (Kd.R_reads' HOA.out).2.1
        have hC := (Kd.R_reads' HOA.out).2.2
        refine (callsIn_wide.1 (chunk_in 3 (some ⟨b, 0, none⟩) all.length cap w7)).mono ?_
        rintro e wc ⟨rfl, hwc⟩
        have hBc : Below w7.heap.size w7 wc := by rw [hwc]; exact ((Below.refl _ _).alloc (Nat.le_refl _) _).alloc (by simp) _
        have hcs : wc.cell? ⟨w7.heap.size, 0, none⟩ = some (.slice (some ⟨b, 0, none⟩) all.length cap) := by
          rw [hwc]; exact (blk_cell (blk_alloc (blk_new w7 _) _) 0).trans rfl
        have hcn : wc.cell? ⟨w7.heap.size + 1, 0, none⟩ = some (.int .i64 64) := by
          rw [hwc]; have := blk_cell (blk_new (w7.alloc (.cells #[.slice (some ⟨b, 0, none⟩) all.length cap] 22)) (.cells #[.int .i64 64] 3)) 0; rw [World.size_alloc] at this; exact this.trans rfl
        obtain ⟨Bs, hBs⟩ : ∃ B, B = w7.heap.size := ⟨_, rfl⟩
        rw [← hBs]
        rw [← hBs] at hcs hcn
        obtain ⟨Bn, hBn⟩ : ∃ B, B = Bs + 1 := ⟨_, rfl⟩
        rw [← hBn]
        rw [← hBn] at hcn
        rw [hal] at hcs
        have HCS := Aside0.mk (⟨hcs, hcn⟩ : _ ∧ _)
        have HWC := Aside0.mk hwc
        have HBC := Aside0.mk hBc
        have HBB := Aside0.mk (⟨hBs, hBn⟩ : _ ∧ _)
        have HM := Aside0.mk (⟨hm, hm0, hal, hcap, hC, hbase, hblt, hall_by, hall⟩ : _ ∧ _ ∧ _ ∧ _ ∧ _ ∧ _ ∧ _ ∧ _ ∧ _)
        clear hcs hcn hwc hBc hBs hBn hm hm0 hal hcap hC hbase hblt hall_by hall
        go_wp2
        have hB7 : Below w1.heap.size w1 wc := below_then HB.out (below_size HB.out) HBC.out
        have hhc : wc.heap[g]? = some (.cells (u32s H0) 57 (0, 0)) := by rw [← HZH.out]; exact (hB7.block g (blk_lt hH1.out)).trans hH1.out
        have ht1 : w1.heap[0]? = some (.cells (u32s tab) tt fr) := (hB1.out.block 0 (blk_lt HT.out)).trans HT.out
        have htc : wc.heap[0]? = some (.cells (u32s tab) tt fr) := (hB7.block 0 (blk_lt ht1)).trans ht1
        have hg7 : g < w1.heap.size := blk_lt hH1.out
        have hw17 : w1.heap.size ≤ w7.heap.size := below_size HB.out
        obtain ⟨hm, hm0, hal, hcap, hC, hbase, hblt, hall_by, hall⟩ := HM.out
        have h0w := blk_lt HT.out
        have hgw := hG.out
        have hbs := HBB.out.1
        have hbn := HBB.out.2
        refine sha_range _ _ _ _ _ _ _ _ _ _ _ _ _ _ _ _ _ _ _ _ _ _ _ _ _ _ _ _ _ _ _ _ _ _ _ _ _ _ _ _ _ _ _  g Bs Bn b cap m tab all H0 htl rfl hal hall_by (by omega) (by omega) wc (by omega) (by omega) (by omega) (by omega) tt fr hhc htc HCS.out.1 HCS.out.2 (Kd.C_below hC HBC.out) (Nat.lt_of_lt_of_le hblt HBC.out.size) _ ?_
        intro D W hWg hgr hD hK
        have hSH : hFold tab all H0 (List.range m) = shaH tab l0 := by rw [hall, hm]; rfl
        rw [hSH] at hWg
        have hBW : Below w.heap.size w W := by
          have h1 : Below w.heap.size w wc := below_then hB1.out hB1.out.size hB7
          exact h1.grown hgr h1.size (fun k e => by cases e; omega)
        have hDw : w.heap.size ≤ D := by have := hB1.out.size; have := hB7.size; omega
        obtain ⟨hv, hhv⟩ : ∃ hv, hv = shaH tab l0 := ⟨_, rfl⟩
        rw [← hhv] at hWg
        have hvl : hv.length = 8 := by rw [hhv, shaH_length]
        have hvb : bnd hv := by rw [hhv]; exact shaH_bnd tab l0
        have HV := Aside0.mk hhv
        have HVB := Aside0.mk hvb
        have HWG := Aside0.mk hWg
        have HBW := Aside0.mk hBW
        have HDK := Aside0.mk (⟨hD, hDw, hK⟩ : _ ∧ _ ∧ _)
        clear hB7 hhc ht1 htc hg7 hw17 hm hm0 hal hcap hC hbase hblt hall_by hall h0w hgw hbs hbn hgr hD hK hSH hBW hDw hhv hvb hWg HB HOA HM HBB HBC HCS HWC HX HJ XL HT HZH HB57 hB1 hH1 HR0
        have HB := Aside0.mk (Below.refl W.heap.size W)
        go_wp2_with (first
          | ((with_reducible refine gate_dst (N := 32) rfl ?_); refine Kd.R_lit (Kd.int .u8) _ 5 ?hg (N := 32) ?hd (xs := ([] : List Int)) (inner := []) (ok := fun _ => True) (okp := fun _ => True) ?hr ?hp (fun _ hk => hk) trivial (Below.refl _ _) (Nat.le_refl _) (by simp) ?_; (case hd => rfl); (case hg => rfl); (case hr => first | (go_simp; done) | (go_simp; rfl)); (case hp => exact (Reps.none _ _)); intro v8 w8 ho hb hg_ hnew_; clear hg_ hnew_; have HO := Aside0.mk ho; have n1_ := Aside0.mk (below_step HB.out hb); clear HB; have HB := n1_; clear n1_ ho hb)
          | ((with_reducible refine gate_dst (N := 33) rfl ?_); refine wpList_load_row rfl 57 (.tmp 3) rfl g rfl 57 _ (0, 0) _ ((HB.out.block g (blk_lt HWG.out)).trans HWG.out) Tryd.underlying57 rfl (by rw [u32s_size, hvl]; exact size57) ?_))
        obtain ⟨K33, hK33⟩ : ∃ K, K = u32s hv := ⟨_, rfl⟩
        have hki : ∀ k : Nat, k < 8 → K33[k]? = some (.int .u32 (rd hv k)) := by
          intro k hk
          rw [hK33]
          simp [u32s, rd, List.getD, List.getElem?_eq_getElem (show k < hv.length by omega)]
        rw [← hK33]
        have hK := Aside0.mk hki
        clear hK33 hki
        go_loopg [6, 34] 9 (fun kq v6 v34 wr => ∃ k : Nat, kq + k = 9 ∧ k ≤ 8 ∧ v34 = .int .i64 k ∧ Aside0 (Kd.R (Kd.int .u8) 5 wr W.heap.size (fun _ => True) v6 (outUpto hv k)) ∧ Aside0 (Below W.heap.size W wr))
        case atStart => exact ⟨0, by omega, by omega, rfl, ⟨HO.out⟩, HB⟩
        case round =>
          clear HO HB
          obtain ⟨k, hkq, hk8, rfl, HO, HB⟩ := hrel
          cases gk with
          | zero => omega
          | succ k1 =>
            by_cases h8 : k < 8
            · obtain ⟨X, hX⟩ : ∃ X, X = rd hv k := ⟨_, rfl⟩
              have hXb : 0 ≤ X ∧ X < 4294967296 := by
                rw [hX]
                have : rd hv (k : Int) ∈ hv := by
                  unfold rd
                  rw [List.getD_eq_getElem?_getD, Int.toNat_natCast, List.getElem?_eq_getElem (by omega)]
                  exact List.getElem_mem _
                exact HVB.out _ this
              have hkk := run_index_in 57 8 K33 k (rd hv k) Tryd.underlying57 h8 (hK.out k h8)
              rw [← hX] at hkk
              have w1_ : IntKind.i64.wrap X = X := IntWalk.i64_in _ (by omega)
              have w2_ : wrap64 X = X := by simp only [wrap64]; omega
              have HBE := Aside0.mk (impl_be.calls 5 X 4 _ wr (be_4 X))
              obtain ⟨y, hy⟩ : ∃ y, y = outUpto hv k := ⟨_, rfl⟩
              have hyl := outUpto_length hv k (by omega)
              rw [← hy] at HO hyl
              have hys : outUpto hv (k + 1) = y ++ be4 X := by rw [outUpto_succ hv k (by omega), ← hy, ← hX]
              have HYS := Aside0.mk hys
              have HYL := Aside0.mk hyl
              obtain ⟨Ao, co, eo⟩ := Kd.R_slice HO.out
              subst eo
              clear hX hXb hy hys hyl
              go_wp2_with (first
                | (refine HBE.out.mono ?_; rintro e w9 ⟨v9, rfl, ho, hb⟩; have HO9 := Aside0.mk (Kd.R_lower (Kd.R_new' ho (Kd.R_lt HO.out)) (below_size HB.out)); have n1_ := Aside0.mk (Kd.R_below HO.out hb); have n2_ := Aside0.mk (below_step HB.out hb); clear HO HB HBE; have HO := n1_; have HB := n2_; clear n1_ n2_ ho hb; obtain ⟨A9, c9, e9⟩ := Kd.R_slice HO9.out; subst e9)
                | ((with_reducible refine gate_builtin (b := .append) (xs := #[.tmp 37, .tmp 40]) rfl ?_); at_builtin; refine Kd.R_append_rows (Kd.int .u8) (w0 := W) W.heap.size rfl (.tmp 37) (.tmp 40) 22 5 (.int .u8 0) 1 rfl Tryd.underlying22 info5 rfl (by decide) (by omega) (.slice Ao y.length co) y (be4 X) _ _ _ (fun _ => True) (fun _ => False) rfl rfl ?aO ?aR (fun _ _ h => h) (fun _ h => h.elim) ?aF ?aB ?aS ?aL ?_; (case aR => exact (Kd.R_reads' HO9.out).2.2); (case aB => exact (by repeat (first | (with_reducible first | exact HB.out | apply below_alloc | apply pw_below_drewN | apply below_drew1) | exact HB.out))); (case aF => exact (fun _ _ => trivial)); (case aO => exact HO.out); (case aS => exact (below_size (by repeat (first | (with_reducible first | exact HB.out | apply below_alloc | apply pw_below_drewN | apply below_drew1) | exact HB.out)))); (case aL => have := HYL.out; simp only [be4, List.length_cons, List.length_nil]; omega); intro v7 w7 ho hb hg hat; have n1_ := Aside0.mk hb; have n2_ := Aside0.mk ho; clear HB HO HO9; have HB := n1_; have HO := n2_; clear n1_ n2_ ho hb hg hat))
              go_roundg k1
              case measure => omega
              case rel => exact ⟨k + 1, by omega, by omega, by simp, ⟨by rw [HYS.out]; exact HO.out⟩, HB⟩
            · obtain rfl : k = 8 := by omega
              obtain ⟨y, hy⟩ : ∃ y, y = outUpto hv 8 := ⟨_, rfl⟩
              rw [← hy] at HO
              have HY := Aside0.mk hy
              obtain ⟨Ao, co, eo⟩ := Kd.R_slice HO.out
              subst eo
              have hst := Kd.C_string (P := Tryd.prog) (w := wr) (c := co) Tryd.underlying22 Tryd.underlying5 Tryd.underlying9 (Kd.R_reads' HO.out).2.2
              clear hy
              go_wp2
              obtain ⟨hD, hDw, hK0⟩ := HDK.out
              have hKr : wr.heap[D]? = some (.deferred (some [])) := (HB.out.block D (blk_lt hK0)).trans hK0
              have hBr : Below w.heap.size w wr := below_then HBW.out HBW.out.size HB.out
              refine ⟨by simp, .inl ⟨_, _, rfl, run_takeDeferred hKr, ?_⟩⟩
              refine ⟨_, results_tmp rfl _ _ _, ?_, hBr.trans (belowK_b (w := w) (Nat.le_refl _) wr D _ _ hDw hKr rfl rfl)⟩
              show Ending.returned (Value.string (strOfNums y)) = _
              rw [HY.out]
              show _ = Ending.returned (Value.string (strOfNums ((shaH tab l0).flatMap be4)))
              rw [← HV.out]
              unfold outUpto
              rw [List.take_of_length_le (by omega)]
      · have c0b0 : (((x.length : Int) % 64) == 56) = false := beq_eq_false_iff_ne.mpr h56
        have c0b1 : (((x.length : Int) % 64) != 56) = true := bne_iff_ne.mpr h56
        go_wp2_with (first
          | ((with_reducible refine gate_builtin (b := .append) (xs := #[.tmp 18, .tmp 19]) rfl ?_); at_builtin; refine Kd.R_append (Kd.int .u8) (w0 := w1) w1.heap.size rfl (.tmp 18) (.tmp 19) 22 5 (.int .u8 0) 1 rfl Tryd.underlying22 info5 rfl (by decide) (by omega) (.slice Ao x.length co) x 0 [.int .u8 0] (fun _ => True) (fun _ => False) rfl rfl ?aP (fun _ hk => hk.elim) ?aF ?aO ?aB ?aS ?aL ?_; (case aP => exact rfl); (case aB => exact (by repeat (first | (with_reducible first | exact HB.out | apply below_alloc | apply pw_below_drewN | apply below_drew1) | exact HB.out))); (case aF => exact (fun _ _ => trivial)); (case aO => exact (by (with_reducible repeat (first | apply Kd.R_alloc | apply Kd.R_drewN | apply Kd.R_drew)); exact HO.out)); (case aS => exact (below_size (by repeat (first | (with_reducible first | exact HB.out | apply below_alloc | apply pw_below_drewN | apply below_drew1) | exact HB.out)))); (case aL => have := XL.out; unfold padN at hjp; omega); intro v5 w5 ho hb hg hat; have n1_ := Aside0.mk hb; have n2_ := Aside0.mk ho; clear HB HO; have HB := n1_; have HO := n2_; clear n1_ n2_ ho hb hg hat))
        go_roundg k1
        case measure => omega
        case rel => exact ⟨j + 1, by omega, by have := XL.out; unfold padN at hj hjp ⊢; omega, ⟨by rw [show pad l0 (j + 1) = x ++ [0] from by rw [HX.out]; simp [pad, List.replicate_succ']]; exact HO.out⟩, HB⟩
end Go.Proofs.YtohlocmdpdghiaaDoor.Sha
