/- The walk of impl.sha, part 6: SHA-256 over arrays, a range over slices.Chunk (by hand, over the print of impl.num and impl.be). Nothing here is trusted: it is checked. -/
import Derived.Test.YtohlocmdpdghiaaDoorZHfS4
import Derived.Test.YtohlocmdpdghiaaDoorZHfS5
namespace Go.Proofs.YtohlocmdpdghiaaDoor.Sha
open Go.RowKit Go.Proofs.YtohlocmdpdghiaaDoor.PHn Go.Shelf Go.Proofs.YtohlocmdpdghiaaDoorW.PrintWords
set_option linter.unusedVariables false
set_option linter.unusedSimpArgs false
attribute [local go_sem] Oper.semAt_some
def chunkAt (all : List Int) (x : Nat) : List Int := (all.take (64 * x + 64)).drop (64 * x)
def hFold (tab all hs : List Int) (ks : List Nat) : List Int := ks.foldl (fun h x => blockI tab h (chunkAt all x)) hs
theorem addk_len8 {hs v : List Int} (h : hs.length = 8) (k : Nat) : (addk hs v k).length = 8 := by rw [addk_length, h]
theorem blockI_length {tab hs l : List Int} (h : hs.length = 8) : (blockI tab hs l).length = 8 := addk_len8 h _
theorem hFold_length {tab all : List Int} : ∀ (ks : List Nat) {hs : List Int}, hs.length = 8 → (hFold tab all hs ks).length = 8
  | [], _, h => h
  | k :: ks, _, h => hFold_length (tab := tab) (all := all) ks (blockI_length h)
theorem chunkAt_length {all : List Int} {m x : Nat} (hl : all.length = 64 * m) (hx : x < m) : (chunkAt all x).length = 64 := by
  simp only [chunkAt, List.length_drop, List.length_take]; omega
theorem Kp_of_grown {n₀ g : Nat} {A B : World} (h : A.grownBy B (some g)) (hn : n₀ ≤ A.heap.size) : Kp n₀ g A B :=
  ⟨h.size, fun k hk hg => h.block k (by omega) (by intro e; injection e with e; exact hg e)⟩
theorem Kp_trans {n₀ g : Nat} {A B C : World} (h : Kp n₀ g A B) (k : Kp n₀ g B C) : Kp n₀ g A C :=
  ⟨Nat.le_trans h.1 k.1, fun i hi hg => (k.2 i hi hg).trans (h.2 i hi hg)⟩
theorem addr_add0 (b o : Nat) : (⟨b, 0, none⟩ : Addr).add o = ⟨b, o, none⟩ := by unfold Addr.add; split <;> simp_all
theorem C_grown {k : IntKind} {w W : World} {A : Option Addr} {n : Nat} {xs : List Int} {g : Nat} (h : (Kd.int k).C w A n xs) (hg : w.grownBy W (some g)) (hne : ∀ ad, A = some ad → ad.block ≠ g) : (Kd.int k).C W A n xs := by
  refine ⟨h.1, h.2.1, fun hp => ?_⟩
  obtain ⟨ad, rfl, hc⟩ := h.2.2 hp
  refine ⟨ad, rfl, fun j p hj => ?_⟩
  obtain ⟨cs, a1, a2, a3⟩ := hc j p hj
  refine ⟨cs, a1, a2, fun i u hu => ?_⟩
  have hx := a3 i u hu
  have hb := World.block_lt_of_cell? w _ hx
  have e : ∀ o, (ad.add o).block = ad.block := fun o => by unfold Addr.add; split <;> rfl
  rw [e] at hb
  have := hg.block ad.block hb (by intro q; injection q with q; exact hne ad rfl q)
  have e2 := e (j * (Kd.int k).sz + i)
  unfold World.cell? at hx ⊢
  rw [e2] at hx ⊢
  rw [this]
  exact hx
theorem chunk_C {w : World} {b c m x : Nat} {all : List Int} (h : Kd.C (Kd.int .u8) w (some ⟨b, 0, none⟩) all.length all) (hal : all.length = 64 * m) (hx : x < m) (hcm : 64 * m ≤ c) : Kd.C (Kd.int .u8) w (some ⟨b, 64 * x, none⟩) 64 (chunkAt all x) := by
  have := Kd.C_mid (lo := 64 * x) (hi := 64 * x + 64) (c := c) h (by omega) (by omega) (by omega)
  rw [if_neg (by omega)] at this
  have hl := chunkAt_length hal hx
  unfold chunkAt at hl ⊢
  rw [hl] at this
  have e : ((some ⟨b, 0, none⟩ : Option Addr).map (·.add (64 * x * (Kd.int IntKind.u8).sz))) = some ⟨b, 64 * x, none⟩ := by
    show some ((⟨b, 0, none⟩ : Addr).add (64 * x * 1)) = _
    rw [Nat.mul_one, addr_add0]
  rw [e] at this
  exact this
theorem chunk_by {all : List Int} (hby : ∀ x ∈ all, 0 ≤ x ∧ x < 256) (x : Nat) : ∀ y ∈ chunkAt all x, 0 ≤ y ∧ y < 256 := fun y hy => hby y (List.mem_of_mem_take (List.mem_of_mem_drop hy))
def rangePart : Code → Code
  | .seq _ (.seq _ (.seq _ (.seq _ (.seq _ (.seq (.seq _ c) _))))) => c
  | c => c
def inBlock : Code → Code
  | .block _ c => c
  | c => c
set_option maxRecDepth 100000 in
set_option maxHeartbeats 4000000 in
theorem sha_range (u0 u1 u2 u4 u5 u6 u7 u8 u9 u10 u11 u12 u13 u14 u15 u16 u17 u18 u19 u20 u21 u22 u23 u24 u25 u26 u27 u29 u30 u31 u32 u33 u34 u35 u36 u37 u38 u39 u40 u41 u42 u43 u44 : Value) (g Bs Bn b c m : Nat) (tab all hs : List Int) (htl : tab.length = 64) (hl : hs.length = 8) (hal : all.length = 64 * m) (hby : ∀ x ∈ all, 0 ≤ x ∧ x < 256)
    (hcm : 64 * m ≤ c) (hm : m ≤ 1000000000) (w : World) (h1 : Bs ≠ g) (h2 : Bn ≠ g) (hbg : b ≠ g) (hg0 : 0 ≠ g) (tt : TypeId) (fr : Nat × Nat)
    (hh : w.heap[g]? = some (.cells (u32s hs) 57 (0, 0))) (ht : w.heap[0]? = some (.cells (u32s tab) tt fr))
    (hcs : w.cell? ⟨Bs, 0, none⟩ = some (.slice (some ⟨b, 0, none⟩) (64 * m) c)) (hcn : w.cell? ⟨Bn, 0, none⟩ = some (.int .i64 64))
    (hall : Kd.C (Kd.int .u8) w (some ⟨b, 0, none⟩) all.length all) (hblt : b < w.heap.size) (Q : Exit → Act → World → Prop)
    (hQ : ∀ D W, W.heap[g]? = some (.cells (u32s (hFold tab all hs (List.range m))) 57 (0, 0)) → w.grownBy W (some g) → w.heap.size ≤ D → W.heap[D]? = some (.deferred (some [])) →
      Q .normal { tmps := #[u0, u1, u2, .pointer (some ⟨g, 0, none⟩), u4, u5, u6, u7, u8, u9, u10, u11, u12, u13, u14, u15, u16, u17, u18, u19, u20, u21, u22, u23, u24, u25, u26, u27, .func (.func 46) #[] #[.pointer (some ⟨Bs, 0, none⟩), .pointer (some ⟨Bn, 0, none⟩)], u29, u30, u31, u32, u33, u34, u35, u36, u37, u38, u39, u40, u41, u42, u43, u44], defers := [{ target := .collected D, args := #[] }] } W) :
    Code.wp Tryd.prog (inBlock (rangePart (Tryd.f22.body.getD .skip))) Q { tmps := #[u0, u1, u2, .pointer (some ⟨g, 0, none⟩), u4, u5, u6, u7, u8, u9, u10, u11, u12, u13, u14, u15, u16, u17, u18, u19, u20, u21, u22, u23, u24, u25, u26, u27, .func (.func 46) #[] #[.pointer (some ⟨Bs, 0, none⟩), .pointer (some ⟨Bn, 0, none⟩)], u29, u30, u31, u32, u33, u34, u35, u36, u37, u38, u39, u40, u41, u42, u43, u44], defers := [] } w := by
  refine (wpIn_wide (n := 100)).1 ?_
  have hlt1 : Bs < w.heap.size := World.block_lt_of_cell? w _ hcs
  have hlt2 : Bn < w.heap.size := World.block_lt_of_cell? w _ hcn
  refine wpIn_rangeFunc_ownF (F := Fence.wide) rfl (by decide) (gf := 46) (lb := #[.pointer (some ⟨Bs, 0, none⟩), .pointer (some ⟨Bn, 0, none⟩)]) rfl trivial (enters_of Tryd.func46 (by kernel_rfl) rfl)
    (chunk_stops (100 - 1) (by decide) Bs Bn w.heap.size g b c m hcm hm hlt1 hlt2 h1 h2 w (Nat.le_refl _) hcs hcn) Kp_trans
    (fun W l o o' hle _ _ _ => ⟨by simp, fun k hk _ => World.putObj_heap_other (by omega)⟩) (Below.refl _ _) (fun _ => rfl)
    (fun pre W => W.heap[g]? = some (.cells (u32s (hFold tab all hs (pre.map (·.1)))) 57 (0, 0)) ∧ w.grownBy W (some g))
    (fun _ _ _ => False)
    (fun s A B row hs_ hg hr => ⟨(hg.block g (blk_lt hs_.1) (by intro e; have := (hr g e.symm).1; have := blk_lt hh; omega)).trans hs_.1,
      ⟨hg.os.trans hs_.2.os, hg.tape.trans hs_.2.tape, hg.output.trans hs_.2.output, Nat.le_trans hs_.2.size hg.size, fun k hk hn => (hg.block k (Nat.lt_of_lt_of_le hk hs_.2.size) (by intro e; have := (hr k e.symm).1; omega)).trans (hs_.2.block k hk hn)⟩⟩)
    (fun _ _ _ _ _ hs _ _ => hs)
    ⟨hh, ⟨rfl, rfl, rfl, Nat.le_refl _, fun _ _ _ => rfl⟩⟩
    (fun x => { tmps := #[u0, u1, u2, .pointer (some ⟨g, 0, none⟩), u4, .slice (some ⟨b, 64 * x.1, none⟩) 64 64, u6, u7, u8, u9, u10, u11, u12, u13, u14, u15, u16, u17, u18, u19, u20, u21, u22, u23, u24, u25, u26, u27, .func (.func 46) #[] #[.pointer (some ⟨Bs, 0, none⟩), .pointer (some ⟨Bn, 0, none⟩)], .slice (some ⟨b, 64 * x.1, none⟩) 64 64, u30, u31, u32, u33, u34, u35, u36, u37, u38, u39, u40, u41, u42, u43, u44], defers := [] }) ?assign ?body ?done ?stop
  case assign =>
    intro l x W K hK
    gi_wp2
    exact hK
  case body =>
    rintro l pre x W ⟨hc, hB⟩ hpl
    have hbl := block_same g (hFold tab all hs (pre.map (·.1))) (hFold_length _ hl) (some ⟨b, 64 * x.1, none⟩) 64 (chunkAt all x.1) (chunkAt_length hal x.2) (Nat.le_refl _) W (chunk_by hby _) hc
      (chunk_C (C_grown hall hB (fun ad e => by cases e; exact hbg)) hal x.2 hcm) tab htl tt fr ((hB.block 0 (blk_lt ht) (by intro e; injection e with e; exact hg0 e)).trans ht)
    have h98 : 1 ≤ 100 - 1 - 1 := by decide
    have HC := Aside0.mk hc
    have HBW := Aside0.mk hB
    clear hc hB hcs hcn hh ht hQ
    gi_wp2_with (refine ⟨trivial, ?_⟩; gi_at_call 41; refine (CallsIn.inRound l (callsIn_wide.2 hbl)).mono ?_; rintro e w' ⟨rfl, hb', hg'⟩)
    refine ⟨KeepsOthers.of_grownBy hg' (fun j o e ho => by cases e; rw [HC.out] at ho; cases ho; rfl), Kp_of_grown hg' HBW.out.size, ?_, grown_trans HBW.out hg'⟩
    rw [List.map_append]
    unfold hFold
    rw [List.foldl_append]
    exact hb'
  case done =>
    rintro D ys W hD hys ⟨hc, hB⟩ hK
    rw [hys] at hc
    exact hQ D W hc hB hD hK
  case stop =>
    rintro D c pre W _ _ h _
    exact h.elim
end Go.Proofs.YtohlocmdpdghiaaDoor.Sha
