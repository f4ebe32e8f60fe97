-- Printed by this session's own program (wip/tools/myprint.py over the kit's print, out of the translation). Nothing here is trusted: Lean checks it.
import Derived.Test.YtohlocmdpdghiaaDoorProg
import Derived.Below
import Derived.Deep.Draws
import Derived.Deep.AppendLies
import Derived.Maps.AppendAt
import Derived.OwnWalk
import Derived.Laws.BytesArg
import Derived.Laws.MakeOwn
import Derived.Laws.OwnMore
import Derived.Deep.OwnRows
import Derived.Tactics
import Derived.Lib.ConvBytes
import Derived.Laws.Slices
import Derived.WalkKit
import Derived.KernelRfl
import Derived.RowKit3
import Derived.Deep.LoopGhost
import Derived.Deep.QuietTactic
import Derived.BigQuiet
import Derived.WideLaws
import Derived.Deep.DeepCutAuto
import Derived.Deep.CutBlock
import Derived.Deep.RegionHeld3
import Derived.Laws.Rows
import Derived.Lib.AppendStr
import Derived.ArgAppend
import Derived.Laws.IdiomCopy
import Derived.OrdersHeld
import Derived.Laws.BitsLemmas
import Derived.RowKit
import Derived.StillTailTactics
import Derived.Deep.LoopGhost
import Derived.Test.YtohlocmdpdghiaaDoorWWords
import Derived.Test.YtohlocmdpdghiaaDoorWLast
import Derived.Test.YtohlocmdpdghiaaDoorWTab
import Derived.Test.YtohlocmdpdghiaaDoorWFour
import Derived.Test.YtohlocmdpdghiaaDoorWQPut
import Derived.Test.YtohlocmdpdghiaaDoorWApart
import Derived.Test.YtohlocmdpdghiaaDoorWArr
import Derived.Test.YtohlocmdpdghiaaDoorWZeros
import Derived.Test.YtohlocmdpdghiaaDoorWFoot
import Derived.Test.YtohlocmdpdghiaaDoorWKept
import Derived.Test.YtohlocmdpdghiaaDoorWShare
import Derived.Test.YtohlocmdpdghiaaDoorWN
import Derived.Test.YtohlocmdpdghiaaDoorWFootNe
import Derived.Test.YtohlocmdpdghiaaDoorWAt
import Derived.Test.YtohlocmdpdghiaaDoorWEqStruct
import Derived.Test.YtohlocmdpdghiaaDoorWRepsOne
import Derived.Test.YtohlocmdpdghiaaDoorWInv
import Derived.Test.YtohlocmdpdghiaaDoorWInvWords
import Derived.Test.YtohlocmdpdghiaaDoorWGuard
import Derived.Test.YtohlocmdpdghiaaDoorWNEv
import Derived.Test.YtohlocmdpdghiaaDoorWMore
namespace Go.Proofs.YtohlocmdpdghiaaDoor.PHn
open Go.RowKit Go.Proofs.YtohlocmdpdghiaaDoorW.PrintWords Go.Proofs.YtohlocmdpdghiaaDoorW.PrintLast Go.Proofs.YtohlocmdpdghiaaDoorW.PrintMore
attribute [local go_sem] max2_int min2_int max_two min_two max_three min_three max_four min_four   -- for this text's walks alone
set_option linter.unusedVariables false
set_option linter.unusedSimpArgs false



def errW : Option Int → Value
  | none => .nilIface
  | some c => .iface 0 (.int .i64 c)
theorem errW_none : errW none = .nilIface := rfl
theorem errW_some (c : Int) : errW (some c) = .iface 0 (.int .i64 c) := rfl

theorem info5 : (Tryd.prog.info? 5).map (fun i => (i.zero, i.size, i.bytes)) = some (some (.int .u8 0), 1, 1) := by kernel_rfl
/-- 'string(b)' of a slice that is read, its length spelled otherwise. -/
theorem str_of_cut {P : Program} {w : World} {src dst e : TypeId} {A : Option Addr} {n n' c : Nat} {xs : List Int} (hs : P.underlying src = some (.slice e)) (he : P.underlying e = some (.int .u8)) (hd : P.underlying dst = some .string) (hn : n = n')
    (h : (Kd.int .u8).C w A n xs) : (convert src dst (.slice A n' c)).run P w = .ok (.string (strOfNums xs)) w := by
  subst hn; exact Kd.C_string hs he hd h
/-- '[]byte(s)': a row that is only read. -/
theorem bytes_V {W : World} {base e : Nat} {ok : Nat → Prop} (s : ByteArray) (hok : ok W.heap.size) (hsz : s.size ≤ 140737488355328) : Kd.V (Kd.int .u8) e (Lib.bytesWorld W e s) base ok (.slice (some ⟨W.heap.size, 0, none⟩) s.size (grownCap W s.size 0 e)) (bytesOf s) := by
  refine ⟨some ⟨W.heap.size, 0, none⟩, grownCap W s.size 0 e, by rw [bytesOf_length], by rw [bytesOf_length]; exact grownCap_ge W s.size 0 e, ?_⟩
  intro W' hW
  have hb := hW W.heap.size hok (by rw [Lib.bytesWorld_size]; omega)
  refine Kd.C_of_reads (enc := Value.int .u8) (d := (0 : Int)) (h1 := fun _ => rfl) ?_
  have hr := bytes_reads W e s (by omega)
  rw [bytesOf_length]
  refine ⟨hr.1, hr.2.1, fun hn => ?_⟩
  obtain ⟨ad, e1, hc⟩ := hr.2.2 hn
  refine ⟨ad, e1, fun j hj => ?_⟩
  injection e1 with e1
  subst e1
  have h := hc j hj
  rw [add_plain] at h ⊢
  unfold World.cell? at h ⊢
  rw [hb]
  exact h
section
variable {P : Program} {ops : Array Oper} {rest : List Oper} {o : Oper} {a : Act} {Q : Exit → Act → World → Prop} {W : World}
theorem w64_u8 (x : Int) : wrap64 (IntKind.u8.wrap x) = IntKind.u8.wrap x := by
  have h : IntKind.u8.wrap x = x % 256 := by simp [IntKind.wrap, IntKind.bits, IntKind.signed]
  rw [h]; unfold wrap64; omega
theorem w64_u8_4 (x : Int) : wrap64 (IntKind.u8.wrap x * 4) = IntKind.u8.wrap x * 4 := by
  have h : IntKind.u8.wrap x = x % 256 := by simp [IntKind.wrap, IntKind.bits, IntKind.signed]
  rw [h]; unfold wrap64; omega
/-- A temporary of an act, read. -/
theorem eval_tmp {n : Nat} {v : Value} (h : a.tmps[n]? = some v) : a.eval (.tmp n) = v := by
  unfold Act.eval
  simp [h]
theorem bytes_run (hgd : o.guard = none) (src dst : TypeId) (x : Operand) (ho : o.op = .convert src dst x) (s : ByteArray) (hx : a.eval x = .string s) {u : TypeDesc} (hs : P.underlying src = some u) {e : Nat} (hdst : P.underlying dst = some (.slice e)) (he : P.underlying e = some (.int .u8)) :
    (execOp a.eval o).run P W = .ok (.value (.slice (some ⟨W.heap.size, 0, none⟩) s.size (grownCap W s.size 0 e))) (Lib.bytesWorld W e s) := by
  unfold execOp
  rw [ho]
  simp only [hx, Sem.run_bind, print_bytes src dst e hs hdst he s W, Result.andThen_ok, Sem.run_pure]
theorem Kd.V_make {w0 : World} (base e : Nat) (hgd : o.guard = none) {N' : Tmp} (_hd : o.dst = some N') (src dst : TypeId) (x : Operand) (ho : o.op = .convert src dst x) (s : ByteArray) (hx : a.eval x = .string s) {u : TypeDesc} (hs : P.underlying src = some u) (hdst : P.underlying dst = some (.slice e)) (he : P.underlying e = some (.int .u8))
    {ok : Nat → Prop} (hok : ok W.heap.size) (hsz : s.size ≤ 140737488355328) (HB : Below base w0 W) (hbase : base ≤ W.heap.size)
    (h : ∀ v1 w1, Kd.V (Kd.int .u8) e w1 base ok v1 (bytesOf s) → Below base w0 w1 → W.grownBy w1 none → (∃ b, v1.ownBlock = some b ∧ W.heap.size ≤ b) → wpList P ops Q rest (a.put o.dst v1) w1) : wpList P ops Q (o :: rest) a W :=
  Kd.event_run hgd (bytes_run hgd src dst x ho s hx hs hdst he) (h _ _ (bytes_V s hok hsz) (bytes_below HB hbase e s) (grown_of_below (bytes_below (Below.refl _ _) (Nat.le_refl _) e s) none) ⟨W.heap.size, by simp [Value.ownBlock], Nat.le_refl _⟩)
theorem Kd.V_make_step {Kc : Act → World → Prop} {w0 : World} (base e : Nat) (hw : Region.wanted o (yielded ops a.tmps) = true) {N' : Tmp} (_hd : o.dst = some N') (src dst : TypeId) (x : Operand) (ho : o.op = .convert src dst x) (s : ByteArray) (hx : a.eval x = .string s) {u : TypeDesc} (hs : P.underlying src = some u) (hdst : P.underlying dst = some (.slice e)) (he : P.underlying e = some (.int .u8))
    {ok : Nat → Prop} (hok : ok W.heap.size) (hsz : s.size ≤ 140737488355328) (HB : Below base w0 W) (hbase : base ≤ W.heap.size)
    (h : ∀ v1 w1, Kd.V (Kd.int .u8) e w1 base ok v1 (bytesOf s) → Below base w0 w1 → W.grownBy w1 none → (∃ b, v1.ownBlock = some b ∧ W.heap.size ≤ b) → Kc (a.put o.dst v1) w1) : if Region.wanted o (yielded ops a.tmps) = true then Oper.wp P o a W Kc Q else Kc (a.put o.dst undef) W :=
  event_step hw (by unfold execOp; rw [ho]; simp only [hx, Sem.run_bind, print_bytes src dst e hs hdst he s W, Result.andThen_ok, Sem.run_pure]) (h _ _ (bytes_V s hok hsz) (bytes_below HB hbase e s) (grown_of_below (bytes_below (Below.refl _ _) (Nat.le_refl _) e s) none) ⟨W.heap.size, by simp [Value.ownBlock], Nat.le_refl _⟩)
end
section
variable {P : Program} {ops : Array Oper} {rest : List Oper} {o : Oper} {a : Act} {Q : Exit → Act → World → Prop} {W W1 : World}
/-- Block g is as it was but for its mark. -/
def Marked (g : Nat) (W W1 : World) : Prop := W.grownBy W1 (some g) ∧ (W1.heap[g]? = W.heap[g]? ∨ ∃ cs e fr fr1, W.heap[g]? = some (.cells cs e fr) ∧ W1.heap[g]? = some (.cells cs e fr1)) ∧ W1.heap.size = W.heap.size
theorem freeze_marked (W : World) (g k n : Nat) : Marked g W (W.freeze ⟨g, k, none⟩ n) := by
  unfold World.freeze
  split
  · exact ⟨World.grownBy.refl _ _, .inl rfl, rfl⟩
  · refine ⟨⟨rfl, rfl, rfl, by simp, fun q hq hne => ?_⟩, ?_, by simp⟩
    · have : g ≠ q := fun h => hne (by rw [h])
      simp [Array.getElem?_modify, this]
    · rcases h : W.heap[g]? with _ | ob
      · left; simp [Array.getElem?_modify, h]
      · cases ob with
        | cells cs e fr => exact .inr ⟨cs, e, fr, _, rfl, by simp [Array.getElem?_modify, h]; rfl⟩
        | _ => left; simp [Array.getElem?_modify, h]
theorem run_mark (t e : TypeId) (ad : Addr) (n c : Nat) (ht : P.underlying t = some (.slice e)) (he : P.underlying e = some (.int .u8)) :
    ∃ W1, (convert t t (.slice (some ad) n c)).run P W = .ok (.slice (some ad) n c) W1 ∧ Marked ad.block W W1 := by
  unfold convert
  rcases h : W.shape? ad.block with _ | ⟨e', m⟩
  · exact ⟨W, by simp [run_underlying ht, run_underlying he, markStringish, h], World.grownBy.refl _ _, .inl rfl, rfl⟩
  · exact ⟨W.freeze ⟨ad.block, m, none⟩ 1, by simp [run_underlying ht, run_underlying he, markStringish, h], freeze_marked _ _ _ _⟩
theorem Marked.cell {g : Nat} {x : Addr} (h : Marked g W W1) : W1.cell? x = W.cell? x := by
  obtain ⟨hg, hc, hs⟩ := h
  unfold World.cell?
  by_cases hx : x.block = g
  · subst hx
    rcases hc with hc | ⟨cs, e, fr, fr1, h1, h2⟩
    · rw [hc]
    · rw [h1, h2]
  · by_cases hl : x.block < W.heap.size
    · rw [hg.block _ hl (by simpa using hx)]
    · rw [Array.getElem?_eq_none (by omega), Array.getElem?_eq_none (by omega)]
theorem Kd.C_cells {A : Option Addr} {n : Nat} {xs : List Int} {k : IntKind} (h : (Kd.int k).C W A n xs) (hc : ∀ x, W1.cell? x = W.cell? x) : (Kd.int k).C W1 A n xs := by
  have h2 := Kd.reads_of_C (d := (0 : Int)) h
  refine Kd.C_of_reads (enc := Value.int k) (d := (0 : Int)) (h1 := fun _ => rfl) ⟨h2.1, h2.2.1, fun hn => ?_⟩
  obtain ⟨ad, e, hr⟩ := h2.2.2 hn
  exact ⟨ad, e, fun j hj => by rw [hc]; exact hr j hj⟩
theorem Kd.V_marked {e base g : Nat} {ok : Nat → Prop} {v : Value} {xs : List Int} {k : IntKind} (h : Kd.V (Kd.int k) e W base ok v xs) (hm : Marked g W W1) : Kd.V (Kd.int k) e W1 base ok v xs := by
  refine Kd.V_map h (fun A hF => ?_)
  intro W' hW
  by_cases hk : ok g ∧ g < W.heap.size
  · let W2 : World := { W' with heap := W'.heap.setIfInBounds g (W.heap[g]'hk.2) }
    have hlt : g < W'.heap.size := by
      have := hW g hk.1 (by rw [hm.2.2]; exact hk.2)
      exact heap_lt this (by rw [hm.2.2]; exact hk.2)
    have h2 : (Kd.int k).C W2 A xs.length xs := hF W2 (fun q hq hl => by
      show (W'.heap.setIfInBounds g _)[q]? = _
      by_cases he : q = g
      · subst he; simp [hlt, hk.2]
      · rw [Array.getElem?_setIfInBounds_ne (Ne.symm he), hW q hq (by rw [hm.2.2]; exact hl)]
        exact hm.1.block q hl (by simpa using he))
    refine Kd.C_cells h2 (fun x => ?_)
    unfold World.cell?
    show _ = match (W'.heap.setIfInBounds g _)[x.block]? with | some (.cells c _ _) => _ | _ => none
    by_cases he : x.block = g
    · have h3 := hW g hk.1 (by rw [hm.2.2]; exact hk.2)
      rw [he, h3]
      rw [Array.getElem?_setIfInBounds_self_of_lt hlt]
      have h5 : W.heap[g]? = some (W.heap[g]'hk.2) := Array.getElem?_eq_getElem hk.2
      rcases hm.2.1 with hc | ⟨cs, e, fr, fr1, h1, h2⟩
      · rw [hc, h5]; rfl
      · rw [h2]; rw [h5] at h1; injection h1 with h1; rw [h1]
    · rw [Array.getElem?_setIfInBounds_ne (Ne.symm he)]; rfl
  · refine hF W' (fun q hq hl => ?_)
    have he : q ≠ g := fun h => hk ⟨h ▸ hq, h ▸ hl⟩
    rw [hW q hq (by rw [hm.2.2]; exact hl)]
    exact hm.1.block q hl (by simpa using he)
theorem blk_marked {g k : Nat} {ob : Obj} (h : W.heap[k]? = some ob) (hm : Marked g W W1) (hne : g ≠ k) : W1.heap[k]? = some ob := by
  rw [← h]
  exact hm.1.block k (Array.getElem?_eq_some_iff.1 h).1 (by simpa using Ne.symm hne)
theorem below_marked {w0 : World} {base g : Nat} (h : Below base w0 W) (hm : Marked g W W1) (hb : base ≤ W.heap.size) (hg : base ≤ g) : Below base w0 W1 :=
  h.grown hm.1 hb (fun k hk => by injection hk with hk; omega)
theorem Kd.R_block {e base n : Nat} {ok : Nat → Prop} {v : Value} {xs : List Int} {k : IntKind} (h : Kd.R (Kd.int k) e W base ok v xs) (hp : xs.length = n + 1) : ∃ g, v.ownBlock = some g ∧ base ≤ g ∧ ok g := by
  obtain ⟨g, cap, he, hb, _⟩ := Kd.R_form h (by omega)
  exact ⟨g, by rw [he]; rfl, hb, h.1 g (by rw [he]; rfl)⟩
theorem mark_step {Kc : Act → World → Prop} {e0 base g : Nat} {ok : Nat → Prop} {v : Value} {xs : List Int} {k : IntKind} (hw : Region.wanted o (yielded ops a.tmps) = true) (t e : TypeId) (x : Operand) (ho : o.op = .convert t t x) (hx : a.eval x = v)
    (ht : P.underlying t = some (.slice e)) (he : P.underlying e = some (.int .u8)) (hv : Kd.V (Kd.int k) e0 W base ok v xs) (hg : v.ownBlock = some g)
    (h : ∀ w1, Marked g W w1 → Kc (a.put o.dst v) w1) : if Region.wanted o (yielded ops a.tmps) = true then Oper.wp P o a W Kc Q else Kc (a.put o.dst undef) W := by
  obtain ⟨A, c, rfl⟩ := Kd.V_slice hv
  cases A with
  | none => simp [Value.ownBlock] at hg
  | some ad =>
    have hg' : ad.block = g := by simpa [Value.ownBlock] using hg
    subst hg'
    obtain ⟨W1, hr, hm⟩ := run_mark (P := P) (W := W) t e ad xs.length c ht he
    exact event_step hw (by unfold execOp; rw [ho]; simp only [hx, Sem.run_bind, hr, Result.andThen_ok, Sem.run_pure]) (h W1 hm)
end
section
variable {P : Program} {ops : Array Oper} {rest : List Oper} {o : Oper} {a : Act} {Q : Exit → Act → World → Prop} {W W1 : World}
theorem Kd.R_setCells {k0 : IntKind} {base e g n c : Nat} {ok : Nat → Prop} (ys : List Int) : ∀ (k : Nat) (W : World) (xs : List Int), Kd.R (Kd.int k0) e W base ok (.slice (some ⟨g, 0, none⟩) n c) xs → k + ys.length ≤ xs.length →
    Kd.R (Kd.int k0) e (W.setCells g k (ys.map (Value.int k0))) base ok (.slice (some ⟨g, 0, none⟩) n c) (xs.take k ++ ys ++ xs.drop (k + ys.length)) := by
  induction ys with
  | nil => intro k W xs h _; simpa [World.setCells] using h
  | cons y ys ih =>
    intro k W xs h hk
    rw [List.length_cons] at hk
    have h1 := Kd.R_putn h (k : Int) y
    rw [Int.toNat_natCast] at h1
    have h2 := ih (k + 1) _ _ h1 (by rw [List.length_set]; omega)
    have e1 : (xs.set k y).take (k + 1) ++ ys ++ (xs.set k y).drop (k + 1 + ys.length) = xs.take k ++ (y :: ys) ++ xs.drop (k + (y :: ys).length) := by
      rw [List.drop_set_of_lt (by omega), List.take_set, List.length_cons, show k + 1 + ys.length = k + (ys.length + 1) by omega]
      have : (xs.take (k + 1)).set k y = xs.take k ++ [y] := by
        rw [List.take_succ_eq_append_getElem (by omega), List.set_append_right _ _ (by rw [List.length_take]; omega), List.length_take, Nat.min_eq_left (by omega), Nat.sub_self]; rfl
      rw [this]; simp
    rw [e1] at h2
    exact h2
/-- 'copy(x[k:], y)' where all of y goes in. -/
theorem Kd.R_copy_run {k0 : IntKind} (base : Nat) (t s ty e : TypeId) (ht : P.underlying t = some (.slice e)) (hi : (P.info? e).map (·.size) = some 1)
    {g n c k : Nat} {xs ys : List Int} {ok : Nat → Prop} (HO : Kd.R (Kd.int k0) e W base ok (.slice (some ⟨g, 0, none⟩) n c) xs) {Y : Option Addr} {m c2 : Nat} (hY : (Kd.int k0).C W Y m ys) (hk : k + m ≤ n) {A : Option Addr} (hA : A = if c = k then some ⟨g, 0, none⟩ else (some (⟨g, 0, none⟩ : Addr)).map (·.add (k * 1))) (c1 : Nat) :
    ∃ w1, (Builtin.copy_ #[t, s] ty #[.slice A (n - k) c1, .slice Y m c2]).run P W = .ok (goInt m) w1 ∧ Kd.R (Kd.int k0) e w1 base ok (.slice (some ⟨g, 0, none⟩) n c) (xs.take k ++ ys ++ xs.drop (k + m)) ∧ W.grownBy w1 (some g) := by
  have hy := Kd.reads_of_C (d := (0 : Int)) hY
  obtain ⟨hyl, _, hyc⟩ := hy
  obtain ⟨hn, hnc, _⟩ := Kd.R_reads' HO
  by_cases h0 : m = 0
  · subst h0
    have hy0 : ys = [] := List.eq_nil_of_length_eq_zero (by omega)
    subst hy0
    refine ⟨W, ?_, by simpa using HO, World.grownBy.refl _ _⟩
    exact run_copy_none W t s ty e A Y (n - k) c1 0 c2 ht hi (by simp)
  · obtain ⟨hok, inner, hown, hr⟩ := HO
    have hin : inner.length = n * 1 := by rw [hr.1, hn]; rfl
    rcases hown.2 with ⟨hv, _⟩ | ⟨g', cap', cur, hv, hb, hh, _, hcm, hcs, htake⟩
    · cases hv
    injection hv with ha _ hc
    injection ha with ha
    injection ha with hg
    subst hg; subst hc
    have hcs1 : cur.size = c := by rw [hcs]; exact Nat.mul_one c
    have hA' : A = some ⟨g, k, none⟩ := by
      rw [hA, if_neg (by omega), Option.map_some, add_at, Nat.zero_add, Nat.mul_one]
    subst hA'
    obtain ⟨ad, rfl, hyd⟩ := hyc (by omega)
    have hcell : ∀ j, j < cur.size → W.cell? ⟨g, j, none⟩ = cur[j]? := fun j hj => by rw [cell_of_row W g _ cur e (0, 0) hh]
    have hrun := run_copy_cells (P := P) W t s ty e g k (n - k) c1 ad m c2 (ys.map (Value.int k0)) ht hi (by rw [List.length_map, hyl]; exact (Nat.min_eq_left (by omega)).symm)
      (fun j v hj => by
        rw [List.getElem?_map] at hj
        obtain ⟨y, hy, rfl⟩ := Option.map_eq_some_iff.1 hj
        have hl := (List.getElem?_eq_some_iff.1 hy).1
        have := hyd j (by omega)
        rw [this, List.getD_eq_getElem?_getD, hy]; rfl)
      (fun j hj => by rw [List.length_map] at hj; rw [hcell _ (by omega)]; simp; omega)
      (fun j hj => blk_frozen hh _)
      (fun v hv => by obtain ⟨y, _, rfl⟩ := List.mem_map.1 hv; rfl)
    rw [List.length_map, hyl] at hrun
    obtain ⟨cur', h3, h4, h5⟩ := setCells_row (ys.map (Value.int k0)) k W cur hh (by rw [List.length_map]; omega)
    obtain ⟨s1, s2, s3, s4⟩ := setCells_same g (ys.map (Value.int k0)) k W
    have hfar : ∀ k', k' ≠ g → (W.setCells g k (ys.map (Value.int k0))).heap[k']? = W.heap[k']? := fun k' hk' => setCells_far _ _ k' hk'
    have hgr : W.grownBy (W.setCells g k (ys.map (Value.int k0))) (some g) := ⟨s1, s2, s3, by rw [s4]; exact Nat.le_refl _, fun k' _ hk' => hfar k' (fun he => hk' (by rw [he]))⟩
    refine ⟨_, hrun, ?_, hgr⟩
    have h := Kd.R_setCells ys k W xs ⟨hok, inner, hown, hr⟩ (by omega)
    rw [hyl] at h; exact h
theorem Kd.R_copy {k0 : IntKind} {w0 : World} (base : Nat) (hgd : o.guard = none) (x y : Operand) (t s e : TypeId) (ho : o.op = .call { callee := .builtin .copy, args := #[x, y], argTypes := #[t, s] })
    (ht : P.underlying t = some (.slice e)) (hi : (P.info? e).map (·.size) = some 1) {g n c k m c1 c2 nk : Nat} {A Y : Option Addr} {xs ys : List Int} {ok : Nat → Prop}
    (hx : a.eval x = .slice A nk c1) (hy : a.eval y = .slice Y m c2) (hnk : nk = n - k) (hA : A = if c = k then some ⟨g, 0, none⟩ else (some (⟨g, 0, none⟩ : Addr)).map (·.add (k * 1)))
    (HO : Kd.R (Kd.int k0) e W base ok (.slice (some ⟨g, 0, none⟩) n c) xs) (hY : (Kd.int k0).C W Y m ys) (hk : k + m ≤ n) (HB : Below base w0 W) (hbase : base ≤ W.heap.size)
    (h : ∀ w1, Kd.R (Kd.int k0) e w1 base ok (.slice (some ⟨g, 0, none⟩) n c) (xs.take k ++ ys ++ xs.drop (k + m)) → Below base w0 w1 → W.grownBy w1 (some g) → wpList P ops Q rest (a.put o.dst (goInt m)) w1) : wpList P ops Q (o :: rest) a W := by
  subst hnk
  obtain ⟨w1, hr, h1, h2⟩ := Kd.R_copy_run (P := P) base t s o.type e ht hi HO hY hk hA c1 (c2 := c2)
  refine wpList_plain hgd fun K hK => ?_
  unfold Oper.wp execOp
  simp only [ho, resolve, invoke, builtin, Sem.run_bind, Sem.run_pure, Result.andThen_ok, List.map_toArray, List.map_cons, List.map_nil, hx, hy, hr]
  exact hK _ _ (h w1 h1 (HB.grown h2 hbase (fun k hk => by injection hk with hk; subst hk; exact Kd.R_base HO _ (by simp [Value.ownBlock]))) h2)
theorem Kd.R_copy_step {Kc : Act → World → Prop} {k0 : IntKind} {w0 : World} (base : Nat) (hw : Region.wanted o (yielded ops a.tmps) = true) (x y : Operand) (t s e : TypeId) (ho : o.op = .call { callee := .builtin .copy, args := #[x, y], argTypes := #[t, s] })
    (ht : P.underlying t = some (.slice e)) (hi : (P.info? e).map (·.size) = some 1) {g n c k m c1 c2 nk : Nat} {A Y : Option Addr} {xs ys : List Int} {ok : Nat → Prop}
    (hx : a.eval x = .slice A nk c1) (hy : a.eval y = .slice Y m c2) (hnk : nk = n - k) (hA : A = if c = k then some ⟨g, 0, none⟩ else (some (⟨g, 0, none⟩ : Addr)).map (·.add (k * 1)))
    (HO : Kd.R (Kd.int k0) e W base ok (.slice (some ⟨g, 0, none⟩) n c) xs) (hY : (Kd.int k0).C W Y m ys) (hk : k + m ≤ n) (HB : Below base w0 W) (hbase : base ≤ W.heap.size)
    (h : ∀ w1, Kd.R (Kd.int k0) e w1 base ok (.slice (some ⟨g, 0, none⟩) n c) (xs.take k ++ ys ++ xs.drop (k + m)) → Below base w0 w1 → W.grownBy w1 (some g) → Kc (a.put o.dst (goInt m)) w1) :
    if Region.wanted o (yielded ops a.tmps) = true then Oper.wp P o a W Kc Q else Kc (a.put o.dst undef) W := by
  subst hnk
  obtain ⟨w1, hr, h1, h2⟩ := Kd.R_copy_run (P := P) base t s o.type e ht hi HO hY hk hA c1 (c2 := c2)
  rw [if_pos hw]
  unfold Oper.wp execOp
  simp only [ho, resolve, invoke, builtin, Sem.run_bind, Sem.run_pure, Result.andThen_ok, List.map_toArray, List.map_cons, List.map_nil, hx, hy, hr]
  exact h w1 h1 (HB.grown h2 hbase (fun k hk => by injection hk with hk; subst hk; exact Kd.R_base HO _ (by simp [Value.ownBlock]))) h2
end
-- the values' own types

end Go.Proofs.YtohlocmdpdghiaaDoor.PHn
