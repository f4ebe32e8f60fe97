/- The walk of impl.sha, part 7: SHA-256 over arrays, a range over slices.Chunk (by hand, over the print of impl.num and impl.be). Nothing here is trusted: it is checked. -/
import Derived.Test.YtohlocmdpdghiaaDoorZHfS6
import Derived.Shelf.Slices.Clone
import Derived.Lib.SliceRun
namespace Go.Proofs.YtohlocmdpdghiaaDoor.Sha
open Go.RowKit Go.Proofs.YtohlocmdpdghiaaDoor.PHn Go.Shelf Go.Proofs.YtohlocmdpdghiaaDoorW.PrintWords Go.Proofs.YtohlocmdpdghiaaDoorW.PrintLast Go.Proofs.YtohlocmdpdghiaaDoorW.PrintMore
set_option linter.unusedVariables false
set_option linter.unusedSimpArgs false
attribute [local go_sem] w64_u8 w64_u8_4 max2_int min2_int max_two min_two max_three min_three max_four min_four
set_option maxHeartbeats 2000000 in
theorem clone38 (A0 : Option Addr) (c0 : Nat) (l0 : List Int) (w : World) (hr0 : Kd.C (Kd.int .u8) w A0 l0.length l0) (hc0 : l0.length ≤ c0) (hl : l0.length < 140737488355328) :
    Calls Tryd.prog 38 #[.slice A0 l0.length c0] w fun e w' => ∃ v0_ : Value, e = .returned (v0_) ∧ Kd.R (Kd.int .u8) 5 w' w.heap.size (fun _ => True) v0_ l0 ∧ Below w.heap.size w w' := by
  have hu := Tryd.underlying5
  have q23 : ∀ (w : World) (a : Option Addr) (n c n' c' : Nat), (binOp .eql 22 (.slice a n c) (.slice none n' c')).run Tryd.prog w = .ok (.bool a.isNone) w := fun w a n c n' c' => Lib.run_eql_slice_nil w _ _ a n c n' c' Tryd.underlying22
  cases A0 with
  | none =>
    have h0 : l0.length = 0 := by
      rcases Nat.eq_zero_or_pos l0.length with h | h
      · exact h
      · obtain ⟨ad, e, _⟩ := hr0.2.2 h; cases e
    obtain rfl := List.eq_nil_of_length_eq_zero h0
    clear h0 hr0 hl
    go_enter Tryd.func38, Tryd.ntmps38
    go_wp2
    go_ret
    exact ⟨_, rfl, Kd.R_nil _ _ _ _ _, Below.refl _ _⟩
  | some ad =>
    have HR := Aside0.mk hr0
    have HL := Aside0.mk hl
    clear hr0 hl
    go_enter Tryd.func38, Tryd.ntmps38
    go_wp2_with (first
      | ((with_reducible refine gate_dst (N := 5) rfl ?_); refine Kd.R_lit (Kd.int .u8) _ 5 ?hg (N := 5) ?hd (xs := ([] : List Int)) (inner := []) (ok := fun _ => True) (okp := fun _ => True) ?hr ?hp (fun _ hk => hk) trivial (Below.refl _ _) (Nat.le_refl _) (by simp) ?_; (case hd => rfl); (case hg => rfl); (case hr => first | (go_simp; done) | (go_simp; rfl)); (case hp => exact (Reps.none _ _)); intro v1 w1 ho hb hg_ hnew_; clear hg_ hnew_; have HO := Aside0.mk ho; have HB := Aside0.mk hb; clear ho hb)
      | ((with_reducible refine gate_builtin (b := .append) (xs := #[.tmp 5, .tmp 6]) rfl ?_); at_builtin; refine Kd.R_append_rows (Kd.int .u8) (w0 := w) w.heap.size rfl (.tmp 5) (.tmp 6) 22 5 (.int .u8 0) 1 rfl Tryd.underlying22 info5 rfl (by decide) (by omega) v1 ([] : List Int) l0 _ _ _ (fun _ => True) (fun _ => False) rfl rfl HO.out (Kd.C_below HR.out HB.out) (fun _ _ h => h) (fun _ h => h.elim) (fun _ _ => trivial) HB.out (below_size HB.out) (by have := HL.out; simp only [List.length_nil]; omega) ?_; intro v2 w2 ho hb hg hat; rw [List.nil_append] at ho))
    go_ret
    exact ⟨_, rfl, ho, hb⟩
/-- The eight bytes, and the four, of a number. -/
def be8 (x : Int) : List Int := [shr .i64 x 56 % 256, shr .i64 x 48 % 256, shr .i64 x 40 % 256, shr .i64 x 32 % 256, shr .i64 x 24 % 256, shr .i64 x 16 % 256, shr .i64 x 8 % 256, shr .i64 x 0 % 256]
def be4 (x : Int) : List Int := [shr .i64 x 24 % 256, shr .i64 x 16 % 256, shr .i64 x 8 % 256, shr .i64 x 0 % 256]
theorem be_step (k : Nat) (x s : Int) (l : List Int) (n i j p : Int) (q : Nat) (h0 : (i < n) = True) (h1 : wrap64 (8 * i) = p) (h2 : 0 ≤ p) (h3 : wrap64 ((wrap64 (s - 1)) - i) = j) (h4 : j = (q : Int)) (h5 : q < l.length) (i' : Int) (h6 : wrap64 (i + 1) = i') :
    impl_be.l0 (k + 1) x s l n i = impl_be.l0 k x s (l.set q (shr .i64 x p % 256)) n i' := by
  rw [impl_be.l0, if_pos (of_eq_true h0), h1, if_pos h2, h3, if_pos (by omega), if_pos (by omega), h6, h4]
  simp
theorem be_end (k : Nat) (x s : Int) (l : List Int) (n : Int) (h : (n < n) = False) : impl_be.l0 (k + 1) x s l n n = some l := by
  rw [impl_be.l0, if_neg (of_eq_false h)]
theorem be_8 (x : Int) : impl_be.f 9 x 8 = some (be8 x) := by
  unfold impl_be.f
  rw [if_pos (by decide), if_pos (by decide)]
  show impl_be.l0 9 x 8 [0, 0, 0, 0, 0, 0, 0, 0] 8 0 = _
  rw [be_step 8 x 8 _ 8 0 7 0 7 (by simp) (by decide +kernel) (by decide) (by decide +kernel) rfl (by decide) 1 (by decide +kernel)]
  rw [be_step 7 x 8 _ 8 1 6 8 6 (by simp) (by decide +kernel) (by decide) (by decide +kernel) rfl (by simp) 2 (by decide +kernel)]
  rw [be_step 6 x 8 _ 8 2 5 16 5 (by simp) (by decide +kernel) (by decide) (by decide +kernel) rfl (by simp) 3 (by decide +kernel)]
  rw [be_step 5 x 8 _ 8 3 4 24 4 (by simp) (by decide +kernel) (by decide) (by decide +kernel) rfl (by simp) 4 (by decide +kernel)]
  rw [be_step 4 x 8 _ 8 4 3 32 3 (by simp) (by decide +kernel) (by decide) (by decide +kernel) rfl (by simp) 5 (by decide +kernel)]
  rw [be_step 3 x 8 _ 8 5 2 40 2 (by simp) (by decide +kernel) (by decide) (by decide +kernel) rfl (by simp) 6 (by decide +kernel)]
  rw [be_step 2 x 8 _ 8 6 1 48 1 (by simp) (by decide +kernel) (by decide) (by decide +kernel) rfl (by simp) 7 (by decide +kernel)]
  rw [be_step 1 x 8 _ 8 7 0 56 0 (by simp) (by decide +kernel) (by decide) (by decide +kernel) rfl (by simp) 8 (by decide +kernel)]
  rw [be_end 0 x 8 _ 8 (by simp)]
  rfl
theorem be_4 (x : Int) : impl_be.f 5 x 4 = some (be4 x) := by
  unfold impl_be.f
  rw [if_pos (by decide), if_pos (by decide)]
  show impl_be.l0 5 x 4 [0, 0, 0, 0] 4 0 = _
  rw [be_step 4 x 4 _ 4 0 3 0 3 (by simp) (by decide +kernel) (by decide) (by decide +kernel) rfl (by decide) 1 (by decide +kernel)]
  rw [be_step 3 x 4 _ 4 1 2 8 2 (by simp) (by decide +kernel) (by decide) (by decide +kernel) rfl (by simp) 2 (by decide +kernel)]
  rw [be_step 2 x 4 _ 4 2 1 16 1 (by simp) (by decide +kernel) (by decide) (by decide +kernel) rfl (by simp) 3 (by decide +kernel)]
  rw [be_step 1 x 4 _ 4 3 0 24 0 (by simp) (by decide +kernel) (by decide) (by decide +kernel) rfl (by simp) 4 (by decide +kernel)]
  rw [be_end 0 x 4 _ 4 (by simp)]
  rfl
def padN (n : Nat) : Nat := (119 - n % 64) % 64
def pad (l0 : List Int) (j : Nat) : List Int := l0 ++ [128] ++ List.replicate j 0
def shaAll (l0 : List Int) : List Int := pad l0 (padN l0.length) ++ be8 (8 * (l0.length : Int))
def shaM (n : Nat) : Nat := (n + 9 + padN n) / 64
theorem pad_length (l0 : List Int) (j : Nat) : (pad l0 j).length = l0.length + 1 + j := by simp [pad]; omega
theorem shaAll_length (l0 : List Int) : (shaAll l0).length = 64 * shaM l0.length := by
  simp only [shaAll, List.length_append, pad_length, shaM, padN, be8, List.length_cons, List.length_nil]
  omega
theorem be8_by (x : Int) : ∀ y ∈ be8 x, 0 ≤ y ∧ y < 256 := by
  intro y hy
  simp only [be8, List.mem_cons, List.not_mem_nil, or_false] at hy
  rcases hy with rfl | rfl | rfl | rfl | rfl | rfl | rfl | rfl <;> omega
theorem shaAll_by {l0 : List Int} (h : ∀ x ∈ l0, 0 ≤ x ∧ x < 256) : ∀ x ∈ shaAll l0, 0 ≤ x ∧ x < 256 := by
  intro x hx
  simp only [shaAll, pad, List.mem_append, List.mem_singleton, List.mem_replicate] at hx
  rcases hx with ((hx | rfl) | ⟨_, rfl⟩) | hx
  · exact h x hx
  · omega
  · omega
  · exact be8_by _ x hx
def H0 : List Int := [1779033703, 3144134277, 1013904242, 2773480762, 1359893119, 2600822924, 528734635, 1541459225]
def shaH (tab l0 : List Int) : List Int := hFold tab (shaAll l0) H0 (List.range (shaM l0.length))
def outUpto (h : List Int) (k : Nat) : List Int := (h.take k).flatMap be4
def shaS (tab l0 : List Int) : ByteArray := strOfNums ((shaH tab l0).flatMap be4)
def bnd (l : List Int) : Prop := ∀ x ∈ l, 0 ≤ x ∧ x < 4294967296
theorem addk_bnd {hs v : List Int} (h : bnd hs) : ∀ k, bnd (addk hs v k)
  | 0 => h
  | k + 1 => fun x hx => by
    rcases List.mem_or_eq_of_mem_set hx with hx | rfl
    · exact addk_bnd h k x hx
    · show 0 ≤ (_ : Int) % 4294967296 ∧ (_ : Int) % 4294967296 < 4294967296
      omega
theorem hFold_bnd {tab all : List Int} : ∀ (ks : List Nat) {hs : List Int}, bnd hs → bnd (hFold tab all hs ks)
  | [], _, h => h
  | k :: ks, _, h => hFold_bnd (tab := tab) (all := all) ks (addk_bnd h _)
theorem H0_bnd : bnd H0 := by unfold bnd H0; decide
theorem shaH_length (tab l0 : List Int) : (shaH tab l0).length = 8 := hFold_length _ rfl
theorem shaH_bnd (tab l0 : List Int) : bnd (shaH tab l0) := hFold_bnd _ H0_bnd
theorem outUpto_succ (h : List Int) (k : Nat) (hk : k < h.length) : outUpto h (k + 1) = outUpto h k ++ be4 (rd h k) := by
  unfold outUpto
  rw [List.take_succ_eq_append_getElem hk, List.flatMap_append]
  simp [rd, List.getD, List.getElem?_eq_getElem hk]
theorem outUpto_length (h : List Int) (k : Nat) (hk : k ≤ h.length) : (outUpto h k).length = 4 * k := by
  induction k with
  | zero => simp [outUpto]
  | succ k ih => rw [outUpto_succ h k (by omega), List.length_append, ih (by omega)]; simp [be4]; omega
end Go.Proofs.YtohlocmdpdghiaaDoor.Sha
