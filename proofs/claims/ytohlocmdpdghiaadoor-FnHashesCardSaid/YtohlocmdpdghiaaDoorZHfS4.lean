/- The walk of impl.sha, part 4: SHA-256 over arrays, a range over slices.Chunk (by hand, over the print of impl.num and impl.be). Nothing here is trusted: it is checked. -/
import Derived.Test.YtohlocmdpdghiaaDoorZHfS3
namespace Go.Proofs.YtohlocmdpdghiaaDoor.Sha
open Go.RowKit Go.Proofs.YtohlocmdpdghiaaDoor.PHn Go.Proofs.YtohlocmdpdghiaaDoorW.PrintWords Go.Proofs.YtohlocmdpdghiaaDoorW.PrintLast Go.Proofs.YtohlocmdpdghiaaDoorW.PrintMore
set_option linter.unusedVariables false
set_option linter.unusedSimpArgs false
def blockI (tab hs l : List Int) : List Int := addk hs (rnds tab (wst l 64) hs 64) 8
set_option maxHeartbeats 8000000 in
set_option maxRecDepth 100000 in
theorem block_same (g : Nat) (hs : List Int) (hl : hs.length = 8) (A : Option Addr) (c : Nat) (l : List Int) (h64 : l.length = 64) (hc64 : 64 ≤ c) (w : World)
    (hby : ∀ x ∈ l, 0 ≤ x ∧ x < 256) (hh : w.heap[g]? = some (.cells (u32s hs) 57 (0, 0))) (hp : Kd.C (Kd.int .u8) w A 64 l) (tab : List Int) (htl : tab.length = 64) (tt : TypeId) (fr : Nat × Nat) (ht : w.heap[0]? = some (.cells (u32s tab) tt fr)) :
    Calls Tryd.prog 41 #[.pointer (some ⟨g, 0, none⟩), .slice A 64 c] w fun e w' => e = .returned (.tuple #[]) ∧ w'.heap[g]? = some (.cells (u32s (blockI tab hs l)) 57 (0, 0)) ∧ w.grownBy w' (some g) := by
  have HH := Aside0.mk hh
  have HP := Aside0.mk hp
  have HT := Aside0.mk ht
  clear hh hp ht
  obtain ⟨Z, hZ⟩ : ∃ Z, Z = u32s (List.replicate 64 0) := ⟨_, rfl⟩
  have hbu : Tryd.prog.built 70 [] = some Z := by rw [hZ]; exact built70
  have hz1 : Z.size = 64 := by rw [hZ, u32s_size]; rfl
  have hz2 : Z.all (·.oneCell') = true := by rw [hZ]; exact u32s_one _
  have HZ := Aside0.mk hZ
  clear hZ
  go_enter Tryd.func41, Tryd.ntmps41
  go_wp2_with (first
    | ((with_reducible refine gate_dst (N := 17) rfl ?_); refine ev_build rfl 70 #[] rfl Z (by rw [List.map_toArray]; exact hbu) ?_)
    | ((with_reducible refine gate_dst (N := 4) rfl ?_); refine box_event ?hg (N := 4) ?hd (cs := u32s (List.replicate 64 0)) (t := 70) ?hr ?_; (case hd => rfl); (case hg => rfl); (case hr => (rw [HZ.out]; first | (go_simp; done) | (go_simp; rfl))); intro G hG0 w1 hbox hB1; have hG := Aside0.mk hG0; clear hG0)
    | ((with_reducible refine gate_store (t := 70) rfl ?_); refine ev_store rfl 70 (.tmp 4) (.tmp 17) rfl rfl _ _ rfl rfl 70 _ hbox (by rw [hz1]; exact size70) (by rw [u32s_size, hz1]; rfl) hz2 ?_; intro w2 hb2 hg2))
  rename_i K hKK
  have HKK := Aside0.mk hKK
  clear hKK
  have hB2 : Below w.heap.size w w2 := hB1.grown hg2 hB1.size (fun k e => by cases e; rw [hG.out]; exact Nat.le_refl _)
  have HB2 := Aside0.mk hB2
  have HK2 := Aside0.mk hb2
  clear hB1 hg2 hbox hb2 hB2
  go_loopw [18] (fun i wr => ∃ k : Nat, k ≤ 64 ∧ i = .int .i64 k ∧ wr.heap[G]? = some (.cells (u32s (wst l k)) 70 (0, 0)) ∧ Below w.heap.size w wr)
    (fun i _ => 64 - (intOf i).toNat)
  case atStart => exact ⟨0, by omega, rfl, (by rw [HK2.out, HZ.out]; rfl), HB2.out⟩
  case round =>
    obtain ⟨k, hk, rfl, hb, hB⟩ := hrel
    have HB := Aside0.mk hB
    have HK := Aside0.mk hb
    clear hB hb
    have wl := wst_length l k
    by_cases h16 : k < 16
    · have hfr := blk_frozen HK.out k
      have hcl := u32s_at HK.out k (by rw [wl]; omega)
      have w1 : wrap64 (4 * (k : Int)) = 4 * k := by simp only [wrap64]; omega
      have w2 : wrap64 (4 * (k : Int) + 4) = 4 * k + 4 := by simp only [wrap64]; omega
      obtain ⟨i0, hi0, _, hsz, _⟩ := info_parts info5
      have hcut := cut_mid (P := Tryd.prog) 22 5 .i64 .i64 Tryd.underlying22 hi0 1 hsz A 64 c (4 * (k : Int)) (4 * (k : Int) + 4) (by omega) (by omega) (by omega) hc64
      obtain ⟨A1, hA1⟩ : ∃ A1, A1 = (if c = (4 * (k : Int)).toNat then A else (A : Option Addr).map (·.add ((4 * (k : Int)).toNat * 1))) := ⟨_, rfl⟩
      obtain ⟨n1, hn1⟩ : ∃ n1, n1 = (4 * (k : Int) + 4).toNat - (4 * (k : Int)).toNat := ⟨_, rfl⟩
      obtain ⟨c1, hc1⟩ : ∃ c1, c1 = c - (4 * (k : Int)).toNat := ⟨_, rfl⟩
      rw [← hA1, ← hn1, ← hc1] at hcut
      have e0 : (4 * (k : Int)).toNat = 4 * k := by omega
      have e1 : (4 * (k : Int) + 4).toNat = 4 * k + 4 := by omega
      have hn4 : n1 = 4 := by omega
      have hC : Kd.C (Kd.int .u8) wr A1 ((l.take (4 * k + 4)).drop (4 * k)).length ((l.take (4 * k + 4)).drop (4 * k)) := by
        have := Kd.C_mid (lo := 4 * k) (hi := 4 * k + 4) (c := c) (Kd.C_below (show Kd.C (Kd.int .u8) w A l.length l from by rw [h64]; exact HP.out) HB.out) (by omega) (by omega) (by omega)
        rw [hA1, e0]
        exact this
      rw [cut4 l k (by omega)] at hC
      have hnum := impl_num.calls 5 A1 c1 _ _ wr hC (by show 4 ≤ c1; omega) (num4 _ _ _ _ (bytes_rd hby _) (bytes_rd hby _) (bytes_rd hby _) (bytes_rd hby _))
      have hnum' : Calls Tryd.prog 47 #[.slice A1 n1 c1] wr fun e w' => e = .returned (.int .i64 (word4 l k)) ∧ Drawn0 wr w' := by rw [hn4]; exact hnum
      clear hnum hC e0 e1 hn4 hn1 hc1 hA1
      go_wp2_with (first | (refine hnum'.mono ?_; rintro e w' ⟨rfl, nd, rfl⟩))
      refine ⟨⟨k + 1, by omega, by simp, ?_, below_set (pw_below_drewN HB.out nd) (by rw [hG.out]; exact Nat.le_refl _)⟩, by simp [intOf]; omega⟩
      have := u32s_put (blk_drewN HK.out nd) k (word4 l k % 4294967296)
      show _ = some (Obj.cells (u32s ((wst l k).set k (wNext l (wst l k) k))) 70)
      unfold wNext
      rw [if_pos h16]
      exact this
    · by_cases h64k : k < 64
      · obtain ⟨j15, hj15⟩ : ∃ j, j = k - 15 := ⟨_, rfl⟩
        obtain ⟨j2, hj2⟩ : ∃ j, j = k - 2 := ⟨_, rfl⟩
        obtain ⟨j16, hj16⟩ : ∃ j, j = k - 16 := ⟨_, rfl⟩
        obtain ⟨j7, hj7⟩ : ∃ j, j = k - 7 := ⟨_, rfl⟩
        have w15 : IntKind.i64.wrap ((k : Int) - 15) = (j15 : Int) := (IntWalk.i64_in _ (by omega)).trans (by omega)
        have w2 : IntKind.i64.wrap ((k : Int) - 2) = (j2 : Int) := (IntWalk.i64_in _ (by omega)).trans (by omega)
        have w16 : IntKind.i64.wrap ((k : Int) - 16) = (j16 : Int) := (IntWalk.i64_in _ (by omega)).trans (by omega)
        have w7 : IntKind.i64.wrap ((k : Int) - 7) = (j7 : Int) := (IntWalk.i64_in _ (by omega)).trans (by omega)
        have l15 : j15 < 64 := by omega
        have l2 : j2 < 64 := by omega
        have l16 : j16 < 64 := by omega
        have l7 : j7 < 64 := by omega
        have hc15 := u32s_at HK.out j15 (by rw [wl]; omega)
        have hc2 := u32s_at HK.out j2 (by rw [wl]; omega)
        have hc16 := u32s_at HK.out j16 (by rw [wl]; omega)
        have hc7 := u32s_at HK.out j7 (by rw [wl]; omega)
        have n15 : (k : Int) - 15 = (j15 : Int) := by omega
        have n2 : (k : Int) - 2 = (j2 : Int) := by omega
        have n16 : (k : Int) - 16 = (j16 : Int) := by omega
        have n7 : (k : Int) - 7 = (j7 : Int) := by omega
        have HN := Aside0.mk (⟨n15, n2, n16, n7⟩ : _ ∧ _ ∧ _ ∧ _)
        clear hj15 hj2 hj16 hj7 n15 n2 n16 n7
        have q15 : ((j15 : Int) < 64) = True := eq_true (by omega)
        have q2 : ((j2 : Int) < 64) = True := eq_true (by omega)
        have q16 : ((j16 : Int) < 64) = True := eq_true (by omega)
        have q7 : ((j7 : Int) < 64) = True := eq_true (by omega)
        go_wp2
        refine wp_region_still_lit (by kernel_rfl) (by kernel_rfl) ?_
        repeat still_step
        refine wpStill_nil ?_
        clear hc15 hc2 hc16 hc7
        obtain ⟨w3, hw3⟩ : ∃ w3, w3 = wr.drew := ⟨_, rfl⟩
        have hb3 : w3.heap[G]? = some (.cells (u32s (wst l k)) 70 (0, 0)) := by rw [hw3]; exact HK.out
        have hB3 : Below w.heap.size w w3 := by rw [hw3]; exact below_drew1 HB.out
        change Exit.then _ _ _ _ wr.drew
        rw [← hw3]
        have HK3 := Aside0.mk hb3
        have HB3 := Aside0.mk hB3
        clear hw3 hb3 hB3
        have hc16 := u32s_at HK3.out j16 (by rw [wl]; omega)
        have hc7 := u32s_at HK3.out j7 (by rw [wl]; omega)
        go_wp2
        go_still_tail 28, (by kernel_rfl)
        still_call (right_7 _ _)
        repeat still_step
        still_call (right_18 _ _)
        repeat still_step
        still_call (right_17 _ _)
        repeat still_step
        still_call (right_19 _ _)
        repeat still_step
        refine wpStill_nil ?_
        clear hc16 hc7
        obtain ⟨w4, hw4⟩ : ∃ w4, w4 = w3.drew := ⟨_, rfl⟩
        have hb4 : w4.heap[G]? = some (.cells (u32s (wst l k)) 70 (0, 0)) := by rw [hw4]; exact HK3.out
        have hB4 : Below w.heap.size w w4 := by rw [hw4]; exact below_drew1 HB3.out
        change wpList _ _ _ _ _ w3.drew
        rw [← hw4]
        have HK4 := Aside0.mk hb4
        have HB4 := Aside0.mk hB4
        clear hw4 hb4 hB4
        have hck := u32s_at HK4.out k (by rw [wl]; omega)
        have hfk := blk_frozen HK4.out k
        go_wp2
        refine ⟨⟨k + 1, by omega, by simp, ?_, below_set HB4.out (by rw [hG.out]; exact Nat.le_refl _)⟩, by simp [intOf]; omega⟩
        have hw : wNext l (wst l k) k = (rd (wst l k) j16 + sigA (rd (wst l k) j15) + rd (wst l k) j7 + sigB (rd (wst l k) j2)) % 4294967296 := by
          unfold wNext
          rw [if_neg h16, HN.out.1, HN.out.2.1, HN.out.2.2.1, HN.out.2.2.2]
        show _ = some (Obj.cells (u32s ((wst l k).set k (wNext l (wst l k) k))) 70)
        rw [hw]
        exact u32s_put HK4.out k _
      · obtain rfl : k = 64 := by omega
        go_wp2
        refine HKK.out _ _ ?_
        have hg9 : wr.heap[g]? = some (.cells (u32s hs) 57 (0, 0)) := (HB.out.block g (blk_lt HH.out)).trans HH.out
        have h09 : wr.heap[0]? = some (.cells (u32s tab) tt fr) := (HB.out.block 0 (blk_lt HT.out)).trans HT.out
        refine block_tail _ _ _ _ _ _ _ _ _ _ _ _ _ _ _ _ _ _ _ _ _ _ _ _ _ _ _ _ _ _ _ _ _ _ _ _ _ _ _ _ _ _ _ _ _ _ _ _ _ _ _ _ _ _ _ _ _ _ _ _ _ _ _ _ _ _ _ _ _ _ _ _ _ _ _ _ _ _ _ _ _ _ _ _ _ _ _ _ _ _ _ _ _ _ _ _ _ _ _ _ _ _ _ _ _ _ _ _ _ _ _ _ _ _ _ _ _ _ _ _ _ _ _ _ _ _ _ _ _ _ _ _ _ _ _ _ _ _ _ _ _ _ _ _ _ _ _ _ _ _ _ _ _ _ _ _ _ _ _ _ _ _ _ _ _ _ _ _ _ _ g G hs (wst l 64) tab hl wl htl tt fr wr hg9 HK.out h09 _ ?_
        rintro ⟨tm, df⟩ w' hd h1 h2
        obtain rfl : df = [] := hd
        go_end0
        exact ⟨rfl, h1, grown_trans (grown_of_below HB.out (Nat.le_refl _)) h2⟩
end Go.Proofs.YtohlocmdpdghiaaDoor.Sha
