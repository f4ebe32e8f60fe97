/- The walk of impl.sha, part 2: SHA-256 over arrays, a range over slices.Chunk (by hand, over the print of impl.num and impl.be). Nothing here is trusted: it is checked. -/
import Derived.Test.YtohlocmdpdghiaaDoorZHfS1
import Derived.IntWalk
import Derived.Laws.Tables
import Derived.Laws.Rows
namespace Go.Proofs.YtohlocmdpdghiaaDoor.Sha
open Go.RowKit Go.Proofs.YtohlocmdpdghiaaDoor.PHn Go.Proofs.YtohlocmdpdghiaaDoorW.PrintWords Go.Proofs.YtohlocmdpdghiaaDoorW.PrintLast Go.Proofs.YtohlocmdpdghiaaDoorW.PrintMore
set_option linter.unusedVariables false
set_option linter.unusedSimpArgs false
theorem built70 : Tryd.prog.built 70 [] = some (u32s (List.replicate 64 0)) := by kernel_rfl
theorem size70 : (Tryd.prog.info? 70).map (·.size) = some 64 := by kernel_rfl
theorem size57 : (Tryd.prog.info? 57).map (·.size) = some 8 := by kernel_rfl
theorem u32s_size (l : List Int) : (u32s l).size = l.length := by simp [u32s]
theorem u32s_one (l : List Int) : (u32s l).all (·.oneCell') = true := by
  rw [Array.all_eq_true_iff_forall_mem]
  intro x hx
  simp [u32s] at hx
  obtain ⟨z, _, rfl⟩ := hx
  rfl
theorem setRow_blk {w : World} {g : Nat} {old cells : Array Value} {t : TypeId} {fr : Nat × Nat} (h : w.heap[g]? = some (.cells old t fr)) : (w.setRow g cells).heap[g]? = some (.cells cells t fr) ∧ w.grownBy (w.setRow g cells) (some g) := by
  refine ⟨setRow_heap w g old cells t fr h, rfl, rfl, rfl, ?_, ?_⟩
  · simp [World.setRow]
  · intro k hk hne
    have : g ≠ k := fun e => hne (by rw [e])
    simp [World.setRow, Array.getElem?_modify, this]
section
variable {P : Program} {ops : Array Oper} {rest : List Oper} {o : Oper} {a : Act} {Q : Exit → Act → World → Prop} {w : World}
theorem ev_build (hg : o.guard = none) (t : TypeId) (parts : Array (Nat × Operand)) (ho : o.op = .build t parts) (cells : Array Value) (hb : P.built t (parts.map fun (i, x) => (i, a.eval x)).toList = some cells)
    (h : wpList P ops Q rest (a.put o.dst (.agg cells)) w) : wpList P ops Q (o :: rest) a w :=
  wpList_build hg t parts ho (by rw [hb]; rfl) (by rw [hb]; exact h)
theorem ev_store (hgd : o.guard = none) (ty : TypeId) (x y : Operand) (ho : o.op = .store ty x y) (hN : o.dst = none)
    (g : Nat) (cells : Array Value) (hx : a.eval x = .pointer (some ⟨g, 0, none⟩)) (hy : a.eval y = .agg cells)
    (t : TypeId) (old : Array Value) (hg : w.heap[g]? = some (.cells old t (0, 0))) (hi : (P.info? ty).map (·.size) = some cells.size)
    (hold : old.size = cells.size) (h1 : cells.all (·.oneCell') = true)
    (h : ∀ w1, w1.heap[g]? = some (.cells cells t (0, 0)) → w.grownBy w1 (some g) → wpList P ops Q rest a w1) : wpList P ops Q (o :: rest) a w :=
  wpList_store_row hgd ty x y ho g cells hx hy t old hg hi hold h1 (by
    have := h _ (setRow_blk hg).1 (setRow_blk hg).2
    rw [hN]; exact this)
end

def word4 (l : List Int) (k : Nat) : Int := ((rd l (4 * k) * 256 + rd l (4 * k + 1)) * 256 + rd l (4 * k + 2)) * 256 + rd l (4 * k + 3)
theorem rd_nn (l : List Int) (k : Nat) (j : Int) (hj : j = (k : Int)) : rd l j = l.getD k 0 := by
  subst hj; unfold rd; rfl
theorem cut4 (l : List Int) (k : Nat) (h : 4 * k + 4 ≤ l.length) : (l.take (4 * k + 4)).drop (4 * k) = [rd l (4 * k), rd l (4 * k + 1), rd l (4 * k + 2), rd l (4 * k + 3)] := by
  rw [rd_nn l (4 * k) _ (by omega), rd_nn l (4 * k + 1) _ (by omega), rd_nn l (4 * k + 2) _ (by omega), rd_nn l (4 * k + 3) _ (by omega)]
  apply List.ext_getElem
  · simp; omega
  · intro i h1 h2
    simp at h2
    simp only [List.getElem_drop, List.getElem_take]
    match i, h2 with
    | 0, _ => simp [List.getD, List.getElem?_eq_getElem (show 4 * k < l.length by omega)]
    | 1, _ => simp [List.getD, List.getElem?_eq_getElem (show 4 * k + 1 < l.length by omega)]
    | 2, _ => simp [List.getD, List.getElem?_eq_getElem (show 4 * k + 2 < l.length by omega)]
    | 3, _ => simp [List.getD, List.getElem?_eq_getElem (show 4 * k + 3 < l.length by omega)]
theorem num4 (a b c d : Int) (ha : 0 ≤ a ∧ a < 256) (hb : 0 ≤ b ∧ b < 256) (hc : 0 ≤ c ∧ c < 256) (hd : 0 ≤ d ∧ d < 256) : impl_num.f 5 [a, b, c, d] = some (((a * 256 + b) * 256 + c) * 256 + d) := by
  have w0 : ∀ x : Int, 0 ≤ x → x < 4294967296 → wrap64 x = x := fun x h0 h1 => by simp only [wrap64]; omega
  unfold impl_num.f
  have e0 : rd [a, b, c, d] 0 = a := rfl
  have e1 : rd [a, b, c, d] 1 = b := rfl
  have e2 : rd [a, b, c, d] 2 = c := rfl
  have e3 : rd [a, b, c, d] 3 = d := rfl
  have l4 : (([a, b, c, d].length : Nat) : Int) = 4 := rfl
  rw [l4]
  unfold impl_num.l0
  rw [if_pos (by decide), if_pos (by decide), if_pos (by rw [l4]; decide), e0, show wrap64 ((0 : Int) + 1) = 1 from by decide +kernel]
  unfold impl_num.l0
  rw [if_pos (by decide), if_pos (by decide), if_pos (by rw [l4]; decide), e1, show wrap64 ((1 : Int) + 1) = 2 from by decide +kernel]
  unfold impl_num.l0
  rw [if_pos (by decide), if_pos (by decide), if_pos (by rw [l4]; decide), e2, show wrap64 ((2 : Int) + 1) = 3 from by decide +kernel]
  unfold impl_num.l0
  rw [if_pos (by decide), if_pos (by decide), if_pos (by rw [l4]; decide), e3, show wrap64 ((3 : Int) + 1) = 4 from by decide +kernel]
  unfold impl_num.l0
  rw [if_neg (by decide)]
  congr 1
  simp only [wrap64]
  omega
theorem bytes_rd {l : List Int} (h : ∀ x ∈ l, 0 ≤ x ∧ x < 256) (i : Int) : 0 ≤ rd l i ∧ rd l i < 256 := by
  unfold rd
  by_cases hi : i.toNat < l.length
  · have : l.getD i.toNat 0 ∈ l := by rw [List.getD_eq_getElem?_getD, List.getElem?_eq_getElem hi]; exact List.getElem_mem hi
    exact h _ this
  · rw [List.getD_eq_getElem?_getD, List.getElem?_eq_none (by omega)]; simp
def sigA (x : Int) : Int := Go.bits .xor .u32 (Go.bits .xor .u32 (rgt x 7) (rgt x 18)) (x / 8)
def sigB (x : Int) : Int := Go.bits .xor .u32 (Go.bits .xor .u32 (rgt x 17) (rgt x 19)) (x / 1024)
def wNext (l ws : List Int) (k : Nat) : Int :=
  if k < 16 then word4 l k % 4294967296 else
  (rd ws (k - 16) + sigA (rd ws (k - 15)) + rd ws (k - 7) + sigB (rd ws (k - 2))) % 4294967296
def wst (l : List Int) : Nat → List Int
  | 0 => List.replicate 64 0
  | k + 1 => (wst l k).set k (wNext l (wst l k) k)
theorem wst_length (l : List Int) : ∀ k, (wst l k).length = 64
  | 0 => by simp [wst]
  | k + 1 => by simp [wst, wst_length l k]
theorem u32s_at {w : World} {g : Nat} {l : List Int} {t : TypeId} (h : w.heap[g]? = some (.cells (u32s l) t (0, 0))) (i : Nat) (hi : i < l.length) : w.cell? ⟨g, i, none⟩ = some (.int .u32 (rd l i)) := by
  rw [blk_cell h i]
  simp [u32s, rd, List.getD, List.getElem?_eq_getElem hi]
theorem u32s_put {w : World} {g : Nat} {l : List Int} {t : TypeId} (h : w.heap[g]? = some (.cells (u32s l) t (0, 0))) (i : Nat) (x : Int) : (w.setCell ⟨g, i, none⟩ (.int .u32 x)).heap[g]? = some (.cells (u32s (l.set i x)) t (0, 0)) :=
  blk_put h i _ (by simp [u32s, List.map_set])
theorem run_index_in (t : TypeId) (n : Nat) (cs : Array Value) (i : Nat) (x : Int) (h : Tryd.prog.underlying t = some (.array n 37)) (hi : i < n) (hx : cs[i]? = some (.int .u32 x)) (w : World) :
    (Instr.index t (.agg cs) (.int .i64 i)).run Tryd.prog w = .ok (.int .u32 x) w := by
  have hn : (0 : Int) ≤ (i : Int) ∧ (i : Int) < (n : Int) := by omega
  simp [Instr.index, run_underlying h, asIntOf, hn, go_sem, hx, hi, Tryd.sizeOf37, Tryd.isAgg37]
end Go.Proofs.YtohlocmdpdghiaaDoor.Sha
