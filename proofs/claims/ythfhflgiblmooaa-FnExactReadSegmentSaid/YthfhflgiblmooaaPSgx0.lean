-- Printed by this session's own program (wip/tools/myprint.py over the kit's print, out of the translation). Nothing here is trusted: Lean checks it.
import Derived.Test.YthfhflgiblmooaaProg
import Derived.Below
import Derived.Deep.Draws
import Derived.Deep.AppendLies
import Derived.Maps.AppendAt
import Derived.OwnWalk
import Derived.Laws.BytesArg
import Derived.Laws.MakeOwn
import Derived.Laws.OwnMore
import Derived.Deep.OwnRows
import Derived.Tactics
import Derived.Lib.ConvBytes
import Derived.Laws.Slices
import Derived.WalkKit
import Derived.KernelRfl
import Derived.RowKit3
import Derived.Deep.LoopGhost
import Derived.Deep.QuietTactic
import Derived.BigQuiet
import Derived.WideLaws
import Derived.Deep.DeepCutAuto
import Derived.Deep.CutBlock
import Derived.Deep.RegionHeld3
import Derived.Laws.Rows
import Derived.Lib.AppendStr
import Derived.ArgAppend
import Derived.Laws.IdiomCopy
import Derived.OrdersHeld
import Derived.Laws.BitsLemmas
import Derived.RowKit
import Derived.Test.YthfhflgiblmooaaWWords
import Derived.Test.YthfhflgiblmooaaWLast
import Derived.Test.YthfhflgiblmooaaWTab
import Derived.Test.YthfhflgiblmooaaWFour
import Derived.Test.YthfhflgiblmooaaWQPut
import Derived.Test.YthfhflgiblmooaaWApart
import Derived.Test.YthfhflgiblmooaaWArr
import Derived.Test.YthfhflgiblmooaaWZeros
import Derived.Test.YthfhflgiblmooaaWFoot
import Derived.Test.YthfhflgiblmooaaWKept
import Derived.Test.YthfhflgiblmooaaWShare
import Derived.Test.YthfhflgiblmooaaWN
import Derived.Test.YthfhflgiblmooaaWFootNe
import Derived.Test.YthfhflgiblmooaaWAt
import Derived.Test.YthfhflgiblmooaaWEqStruct
import Derived.Test.YthfhflgiblmooaaWRepsOne
import Derived.Test.YthfhflgiblmooaaWInv
import Derived.Test.YthfhflgiblmooaaWInvWords
import Derived.Test.YthfhflgiblmooaaWGuard
import Derived.Test.YthfhflgiblmooaaWNEv
import Derived.Test.YthfhflgiblmooaaWMore
namespace Go.Proofs.Ythfhflgiblmooaa.PSg
open Go.RowKit Go.Proofs.YthfhflgiblmooaaW.PrintWords Go.Proofs.YthfhflgiblmooaaW.PrintLast Go.Proofs.YthfhflgiblmooaaW.PrintMore
attribute [local go_sem] max2_int min2_int max_two min_two max_three min_three max_four min_four   -- for this text's walks alone
set_option linter.unusedVariables false
set_option linter.unusedSimpArgs false



def errW : Option Int → Value
  | none => .nilIface
  | some c => .iface 0 (.int .i64 c)
theorem errW_none : errW none = .nilIface := rfl
theorem errW_some (c : Int) : errW (some c) = .iface 0 (.int .i64 c) := rfl

theorem info5 : (Try.prog.info? 5).map (fun i => (i.zero, i.size, i.bytes)) = some (some (.int .u8 0), 1, 1) := by kernel_rfl
theorem info22 : (Try.prog.info? 22).map (fun i => (i.zero, i.size, i.bytes)) = some (some (.slice none 0 0), 1, 24) := by kernel_rfl
/-- 'string(b)' of a slice that is read, its length spelled otherwise. -/
theorem str_of_cut {P : Program} {w : World} {src dst e : TypeId} {A : Option Addr} {n n' c : Nat} {xs : List Int} (hs : P.underlying src = some (.slice e)) (he : P.underlying e = some (.int .u8)) (hd : P.underlying dst = some .string) (hn : n = n')
    (h : (Kd.int .u8).C w A n xs) : (convert src dst (.slice A n' c)).run P w = .ok (.string (strOfNums xs)) w := by
  subst hn; exact Kd.C_string hs he hd h
/-- '[]byte(s)': a row that is only read. -/
theorem bytes_V {W : World} {base e : Nat} {ok : Nat → Prop} (s : ByteArray) (hok : ok W.heap.size) (hsz : s.size ≤ 140737488355328) : Kd.V (Kd.int .u8) e (Lib.bytesWorld W e s) base ok (.slice (some ⟨W.heap.size, 0, none⟩) s.size (grownCap W s.size 0 e)) (bytesOf s) := by
  refine ⟨some ⟨W.heap.size, 0, none⟩, grownCap W s.size 0 e, by rw [bytesOf_length], by rw [bytesOf_length]; exact grownCap_ge W s.size 0 e, ?_⟩
  intro W' hW
  have hb := hW W.heap.size hok (by rw [Lib.bytesWorld_size]; omega)
  refine Kd.C_of_reads (enc := Value.int .u8) (d := (0 : Int)) (h1 := fun _ => rfl) ?_
  have hr := bytes_reads W e s (by omega)
  rw [bytesOf_length]
  refine ⟨hr.1, hr.2.1, fun hn => ?_⟩
  obtain ⟨ad, e1, hc⟩ := hr.2.2 hn
  refine ⟨ad, e1, fun j hj => ?_⟩
  injection e1 with e1
  subst e1
  have h := hc j hj
  rw [add_plain] at h ⊢
  unfold World.cell? at h ⊢
  rw [hb]
  exact h
section
variable {P : Program} {ops : Array Oper} {rest : List Oper} {o : Oper} {a : Act} {Q : Exit → Act → World → Prop} {W : World}
theorem w64_u8 (x : Int) : wrap64 (IntKind.u8.wrap x) = IntKind.u8.wrap x := by
  have h : IntKind.u8.wrap x = x % 256 := by simp [IntKind.wrap, IntKind.bits, IntKind.signed]
  rw [h]; unfold wrap64; omega
theorem w64_u8_4 (x : Int) : wrap64 (IntKind.u8.wrap x * 4) = IntKind.u8.wrap x * 4 := by
  have h : IntKind.u8.wrap x = x % 256 := by simp [IntKind.wrap, IntKind.bits, IntKind.signed]
  rw [h]; unfold wrap64; omega
/-- A temporary of an act, read. -/
theorem eval_tmp {n : Nat} {v : Value} (h : a.tmps[n]? = some v) : a.eval (.tmp n) = v := by
  unfold Act.eval
  simp [h]
theorem bytes_run (hgd : o.guard = none) (src dst : TypeId) (x : Operand) (ho : o.op = .convert src dst x) (s : ByteArray) (hx : a.eval x = .string s) {u : TypeDesc} (hs : P.underlying src = some u) {e : Nat} (hdst : P.underlying dst = some (.slice e)) (he : P.underlying e = some (.int .u8)) :
    (execOp a.eval o).run P W = .ok (.value (.slice (some ⟨W.heap.size, 0, none⟩) s.size (grownCap W s.size 0 e))) (Lib.bytesWorld W e s) := by
  unfold execOp
  rw [ho]
  simp only [hx, Sem.run_bind, print_bytes src dst e hs hdst he s W, Result.andThen_ok, Sem.run_pure]
theorem Kd.V_make {w0 : World} (base e : Nat) (hgd : o.guard = none) {N' : Tmp} (_hd : o.dst = some N') (src dst : TypeId) (x : Operand) (ho : o.op = .convert src dst x) (s : ByteArray) (hx : a.eval x = .string s) {u : TypeDesc} (hs : P.underlying src = some u) (hdst : P.underlying dst = some (.slice e)) (he : P.underlying e = some (.int .u8))
    {ok : Nat → Prop} (hok : ok W.heap.size) (hsz : s.size ≤ 140737488355328) (HB : Below base w0 W) (hbase : base ≤ W.heap.size)
    (h : ∀ v1 w1, Kd.V (Kd.int .u8) e w1 base ok v1 (bytesOf s) → Below base w0 w1 → W.grownBy w1 none → (∃ b, v1.ownBlock = some b ∧ W.heap.size ≤ b) → wpList P ops Q rest (a.put o.dst v1) w1) : wpList P ops Q (o :: rest) a W :=
  Kd.event_run hgd (bytes_run hgd src dst x ho s hx hs hdst he) (h _ _ (bytes_V s hok hsz) (bytes_below HB hbase e s) (grown_of_below (bytes_below (Below.refl _ _) (Nat.le_refl _) e s) none) ⟨W.heap.size, by simp [Value.ownBlock], Nat.le_refl _⟩)
theorem Kd.V_make_step {Kc : Act → World → Prop} {w0 : World} (base e : Nat) (hw : Region.wanted o (yielded ops a.tmps) = true) {N' : Tmp} (_hd : o.dst = some N') (src dst : TypeId) (x : Operand) (ho : o.op = .convert src dst x) (s : ByteArray) (hx : a.eval x = .string s) {u : TypeDesc} (hs : P.underlying src = some u) (hdst : P.underlying dst = some (.slice e)) (he : P.underlying e = some (.int .u8))
    {ok : Nat → Prop} (hok : ok W.heap.size) (hsz : s.size ≤ 140737488355328) (HB : Below base w0 W) (hbase : base ≤ W.heap.size)
    (h : ∀ v1 w1, Kd.V (Kd.int .u8) e w1 base ok v1 (bytesOf s) → Below base w0 w1 → W.grownBy w1 none → (∃ b, v1.ownBlock = some b ∧ W.heap.size ≤ b) → Kc (a.put o.dst v1) w1) : if Region.wanted o (yielded ops a.tmps) = true then Oper.wp P o a W Kc Q else Kc (a.put o.dst undef) W :=
  event_step hw (by unfold execOp; rw [ho]; simp only [hx, Sem.run_bind, print_bytes src dst e hs hdst he s W, Result.andThen_ok, Sem.run_pure]) (h _ _ (bytes_V s hok hsz) (bytes_below HB hbase e s) (grown_of_below (bytes_below (Below.refl _ _) (Nat.le_refl _) e s) none) ⟨W.heap.size, by simp [Value.ownBlock], Nat.le_refl _⟩)
end
-- the values' own types
def rd_L1 (xs : List (List Int)) (i : Int) : (List Int) := xs.getD i.toNat ([] : List Int)
theorem at_L1 {w : World} {A : Option Addr} {n : Nat} {xs : List (List Int)} (h : Kd.C (Kd.slice 5 (Kd.int .u8)) w A n xs) (i : Int) (h0 : 0 ≤ i) (h1 : i < n) : ∃ ad A0 c0, A = some ad ∧ w.cell? (ad.add i.toNat) = some (.slice A0 (rd_L1 xs i).length c0) ∧ (rd_L1 xs i).length ≤ c0 ∧ (Kd.int .u8).C w A0 (rd_L1 xs i).length (rd_L1 xs i) := by
  obtain ⟨ad, c, e, _, hK, hc0⟩ := Kd.C_get h ([] : List Int) i h0 h1
  have hc : ∀ j u, c[j]? = some u → w.cell? (ad.add (i.toNat * 1 + j)) = some u := hc0
  obtain ⟨A0, c0, rfl, l0, g0⟩ := hK
  exact ⟨ad, A0, c0, e, by have hq := hc 0 _ rfl; rwa [Nat.mul_one, Nat.add_zero] at hq, l0, g0⟩

end Go.Proofs.Ythfhflgiblmooaa.PSg
