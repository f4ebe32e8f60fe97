-- Printed by this session's own program (wip/tools/myprint.py over the kit's print, out of the translation). Nothing here is trusted: Lean checks it.
import Derived.Test.YtohlocmdpdghiaaDoorProg
import Derived.Below
import Derived.Deep.Draws
import Derived.Deep.AppendLies
import Derived.Maps.AppendAt
import Derived.OwnWalk
import Derived.Laws.BytesArg
import Derived.Laws.MakeOwn
import Derived.Laws.OwnMore
import Derived.Deep.OwnRows
import Derived.Tactics
import Derived.Lib.ConvBytes
import Derived.Laws.Slices
import Derived.WalkKit
import Derived.KernelRfl
import Derived.RowKit3
import Derived.Deep.LoopGhost
import Derived.Deep.QuietTactic
import Derived.BigQuiet
import Derived.WideLaws
import Derived.Deep.DeepCutAuto
import Derived.Deep.CutBlock
import Derived.Deep.RegionHeld3
import Derived.Laws.Rows
import Derived.Lib.AppendStr
import Derived.ArgAppend
import Derived.Laws.IdiomCopy
import Derived.OrdersHeld
import Derived.Laws.BitsLemmas
import Derived.RowKit
import Derived.StillTailTactics
import Derived.Deep.LoopGhost
import Derived.Test.YtohlocmdpdghiaaDoorZHfWWords
import Derived.Test.YtohlocmdpdghiaaDoorZHfWLast
import Derived.Test.YtohlocmdpdghiaaDoorZHfWTab
import Derived.Test.YtohlocmdpdghiaaDoorZHfWFour
import Derived.Test.YtohlocmdpdghiaaDoorZHfWQPut
import Derived.Test.YtohlocmdpdghiaaDoorZHfWApart
import Derived.Test.YtohlocmdpdghiaaDoorZHfWArr
import Derived.Test.YtohlocmdpdghiaaDoorZHfWZeros
import Derived.Test.YtohlocmdpdghiaaDoorZHfWFoot
import Derived.Test.YtohlocmdpdghiaaDoorZHfWKept
import Derived.Test.YtohlocmdpdghiaaDoorZHfWShare
import Derived.Test.YtohlocmdpdghiaaDoorZHfWN
import Derived.Test.YtohlocmdpdghiaaDoorZHfWFootNe
import Derived.Test.YtohlocmdpdghiaaDoorZHfWAt
import Derived.Test.YtohlocmdpdghiaaDoorZHfWEqStruct
import Derived.Test.YtohlocmdpdghiaaDoorZHfWRepsOne
import Derived.Test.YtohlocmdpdghiaaDoorZHfWInv
import Derived.Test.YtohlocmdpdghiaaDoorZHfWInvWords
import Derived.Test.YtohlocmdpdghiaaDoorZHfWGuard
import Derived.Test.YtohlocmdpdghiaaDoorZHfWNEv
import Derived.Test.YtohlocmdpdghiaaDoorZHfWMore
namespace Go.Proofs.YtohlocmdpdghiaaDoor.PHn
open Go.RowKit Go.Proofs.YtohlocmdpdghiaaDoorW.PrintWords Go.Proofs.YtohlocmdpdghiaaDoorW.PrintLast Go.Proofs.YtohlocmdpdghiaaDoorW.PrintMore
attribute [local go_sem] max2_int min2_int max_two min_two max_three min_three max_four min_four   -- for this text's walks alone
set_option linter.unusedVariables false
set_option linter.unusedSimpArgs false



def errW : Option Int → Value
  | none => .nilIface
  | some c => .iface 0 (.int .i64 c)
theorem errW_none : errW none = .nilIface := rfl
theorem errW_some (c : Int) : errW (some c) = .iface 0 (.int .i64 c) := rfl

theorem info5 : (Tryd.prog.info? 5).map (fun i => (i.zero, i.size, i.bytes)) = some (some (.int .u8 0), 1, 1) := by kernel_rfl
/-- '[]byte(s)': a row that is only read. -/
theorem bytes_V {W : World} {base e : Nat} {ok : Nat → Prop} (s : ByteArray) (hok : ok W.heap.size) (hsz : s.size ≤ 140737488355328) : Kd.V (Kd.int .u8) e (Lib.bytesWorld W e s) base ok (.slice (some ⟨W.heap.size, 0, none⟩) s.size (grownCap W s.size 0 e)) (bytesOf s) := by
  refine ⟨some ⟨W.heap.size, 0, none⟩, grownCap W s.size 0 e, by rw [bytesOf_length], by rw [bytesOf_length]; exact grownCap_ge W s.size 0 e, ?_⟩
  intro W' hW
  have hb := hW W.heap.size hok (by rw [Lib.bytesWorld_size]; omega)
  refine Kd.C_of_reads (enc := Value.int .u8) (d := (0 : Int)) (h1 := fun _ => rfl) ?_
  have hr := bytes_reads W e s (by omega)
  rw [bytesOf_length]
  refine ⟨hr.1, hr.2.1, fun hn => ?_⟩
  obtain ⟨ad, e1, hc⟩ := hr.2.2 hn
  refine ⟨ad, e1, fun j hj => ?_⟩
  injection e1 with e1
  subst e1
  have h := hc j hj
  rw [add_plain] at h ⊢
  unfold World.cell? at h ⊢
  rw [hb]
  exact h
section
variable {P : Program} {ops : Array Oper} {rest : List Oper} {o : Oper} {a : Act} {Q : Exit → Act → World → Prop} {W : World}
theorem w64_u8 (x : Int) : wrap64 (IntKind.u8.wrap x) = IntKind.u8.wrap x := by
  have h : IntKind.u8.wrap x = x % 256 := by simp [IntKind.wrap, IntKind.bits, IntKind.signed]
  rw [h]; unfold wrap64; omega
theorem w64_u8_4 (x : Int) : wrap64 (IntKind.u8.wrap x * 4) = IntKind.u8.wrap x * 4 := by
  have h : IntKind.u8.wrap x = x % 256 := by simp [IntKind.wrap, IntKind.bits, IntKind.signed]
  rw [h]; unfold wrap64; omega
/-- A temporary of an act, read. -/
theorem eval_tmp {n : Nat} {v : Value} (h : a.tmps[n]? = some v) : a.eval (.tmp n) = v := by
  unfold Act.eval
  simp [h]
theorem bytes_run (hgd : o.guard = none) (src dst : TypeId) (x : Operand) (ho : o.op = .convert src dst x) (s : ByteArray) (hx : a.eval x = .string s) {u : TypeDesc} (hs : P.underlying src = some u) {e : Nat} (hdst : P.underlying dst = some (.slice e)) (he : P.underlying e = some (.int .u8)) :
    (execOp a.eval o).run P W = .ok (.value (.slice (some ⟨W.heap.size, 0, none⟩) s.size (grownCap W s.size 0 e))) (Lib.bytesWorld W e s) := by
  unfold execOp
  rw [ho]
  simp only [hx, Sem.run_bind, print_bytes src dst e hs hdst he s W, Result.andThen_ok, Sem.run_pure]
theorem Kd.V_make {w0 : World} (base e : Nat) (hgd : o.guard = none) {N' : Tmp} (_hd : o.dst = some N') (src dst : TypeId) (x : Operand) (ho : o.op = .convert src dst x) (s : ByteArray) (hx : a.eval x = .string s) {u : TypeDesc} (hs : P.underlying src = some u) (hdst : P.underlying dst = some (.slice e)) (he : P.underlying e = some (.int .u8))
    {ok : Nat → Prop} (hok : ok W.heap.size) (hsz : s.size ≤ 140737488355328) (HB : Below base w0 W) (hbase : base ≤ W.heap.size)
    (h : ∀ v1 w1, Kd.V (Kd.int .u8) e w1 base ok v1 (bytesOf s) → Below base w0 w1 → W.grownBy w1 none → (∃ b, v1.ownBlock = some b ∧ W.heap.size ≤ b) → wpList P ops Q rest (a.put o.dst v1) w1) : wpList P ops Q (o :: rest) a W :=
  Kd.event_run hgd (bytes_run hgd src dst x ho s hx hs hdst he) (h _ _ (bytes_V s hok hsz) (bytes_below HB hbase e s) (grown_of_below (bytes_below (Below.refl _ _) (Nat.le_refl _) e s) none) ⟨W.heap.size, by simp [Value.ownBlock], Nat.le_refl _⟩)
end
section
variable {P : Program} {ops : Array Oper} {rest : List Oper} {o : Oper} {a : Act} {Q : Exit → Act → World → Prop} {W W1 : World}
/-- Block g is as it was but for its mark. -/
def Marked (g : Nat) (W W1 : World) : Prop := W.grownBy W1 (some g) ∧ (W1.heap[g]? = W.heap[g]? ∨ ∃ cs e fr fr1, W.heap[g]? = some (.cells cs e fr) ∧ W1.heap[g]? = some (.cells cs e fr1)) ∧ W1.heap.size = W.heap.size
theorem Marked.cell {g : Nat} {x : Addr} (h : Marked g W W1) : W1.cell? x = W.cell? x := by
  obtain ⟨hg, hc, hs⟩ := h
  unfold World.cell?
  by_cases hx : x.block = g
  · subst hx
    rcases hc with hc | ⟨cs, e, fr, fr1, h1, h2⟩
    · rw [hc]
    · rw [h1, h2]
  · by_cases hl : x.block < W.heap.size
    · rw [hg.block _ hl (by simpa using hx)]
    · rw [Array.getElem?_eq_none (by omega), Array.getElem?_eq_none (by omega)]
end
section
variable {P : Program} {ops : Array Oper} {rest : List Oper} {o : Oper} {a : Act} {Q : Exit → Act → World → Prop} {W W1 : World}
end
-- the values' own types

end Go.Proofs.YtohlocmdpdghiaaDoor.PHn
