-- Printed by this session's own program (wip/tools/myprint.py over the kit's print, out of the translation). Nothing here is trusted: Lean checks it.
import Derived.Test.YthfhflgiblmooaaRows
import Derived.Test.YthfhflgiblmooaaPPbx5
import Derived.Test.YthfhflgiblmooaaPureFnExactPacketBytes
import Derived.WalkKit
import Derived.ProofKit
import Derived.OpenShut
import Derived.ShutString
import Derived.ChangeOld
import Derived.Below
import Derived.SizedLaws
import Derived.Test.YthfhflgiblmooaaWSized
namespace Go.Proofs.Ythfhflgiblmooaa.fnExactPacketBytes
open Go.ChangeShapes Go.WideShapes Go.ChangeAt Go.RowKit
open Go.ChangeMaps (open_string shut_string)
set_option linter.unusedVariables false
set_option linter.unusedSimpArgs false
theorem own : ownKnob Try.prog.godebug = none := by kernel_rfl
theorem laidOut : laidOutB Try.prog = true := by kernel_rfl
def IsRow (k : IntKind) (w : World) (a : Option Addr) (len cap : Nat) (zs : List Int) : Prop :=
  (a = none ∧ len = 0 ∧ cap = 0 ∧ zs = []) ∨
  ∃ x, a = some x ∧ len ≤ cap ∧ cap ≤ maxLen ∧ zs.length = cap ∧ (∀ i, i < zs.length → w.cell? (x.add i) = some (.int k (zs.getD i 0))) ∧ ∀ n ∈ zs, (Lit.int k n).wf = true
theorem sized_in {H : Type} {P : Program} {ts : List TypeId} {ds : List (DataW H)} (h : (DataW.weightsEach P ts ds).all (· ≤ reachBytes) = true) {j : Nat} {t : TypeId} {fs : Array Field} {parts : List (DataW H)} {i : Nat} {t' : TypeId} {bytes : List UInt8}
    (ht : ts[j]? = some t) (hd : ds[j]? = some (.agg parts)) (hu : P.underlying t = some (.struct fs)) (hf : (fs.toList.map (·.type))[i]? = some t') (hp : parts[i]? = some (.lit (.string bytes))) : bytes.length ≤ reachBytes := by
  have z := List.all_eq_true.1 h _ (DataW.weights_mem_each ht hd bytes.length (by
    simp only [DataW.weights, hu]
    exact DataW.weights_mem_each hf hp _ (by simp [DataW.weights])))
  simpa using z
set_option linter.constructorNameAsVariable false in
set_option maxRecDepth 100000 in
set_option maxHeartbeats 4000000 in
theorem open_T50 {H : Type} {enc : TypeId × Value → H} {W : World} {r : Reach} {b0 base : Nat} {spare : Nat → Bool} {held : Bool} {v : Value} {d : DataW H} {p : List MemPlace} (hv : Value.okWide Try.prog W r b0 50 v) (h : DataW.Trod enc Try.prog W base spare held 50 v d p) :
    ∃ (a0 : Int) (a1 : Int) (a2 : Int) (a3 : Int) (a4 : Int) (a5 : ByteArray), v = .agg #[.int .i64 a0, .int .i64 a1, .int .i64 a2, .int .i64 a3, .int .i64 a4, .string a5] ∧ d = .agg [.lit (.int .i64 a0), .lit (.int .i64 a1), .lit (.int .i64 a2), .lit (.int .i64 a3), .lit (.int .i64 a4), .lit (.string a5.data.toList)] ∧ (Lit.int .i64 a0).wf = true ∧ (Lit.int .i64 a1).wf = true ∧ (Lit.int .i64 a2).wf = true ∧ (Lit.int .i64 a3).wf = true ∧ (Lit.int .i64 a4).wf = true ∧ a5.size ≤ maxLen := by
  obtain ⟨cs, rfl, hz⟩ := okWide_struct Try.underlying50 hv
  obtain ⟨l⟩ := cs
  obtain ⟨fuel, hf⟩ := h
  obtain ⟨xs, m, _, hx, _, hlen, hg⟩ := DataW.trod_struct Try.underlying50 hf
  have hz' : l.length = 6 := hz.trans (show Try.prog.cellsOf 50 = 6 by kernel_rfl)
  simp only [Prod.mk.injEq] at hx
  obtain ⟨rfl, _⟩ := hx
  clear hv hz hf
  match l, hz', xs, hlen with
  | [c0, c1, c2, c3, c4, c5], _, [y0, y1, y2, y3, y4, y5], _ =>
    have g0 := hg 0 _ rfl
    simp [Value.cells, show Try.prog.cellsOf 3 = 1 by kernel_rfl] at g0
    obtain ⟨b0, e0, f0, u0⟩ := DataW.trod_int Try.underlying3 g0
    simp only [List.cons.injEq, and_true] at e0
    subst e0
    subst f0
    have g1 := hg 1 _ rfl
    simp [Value.cells, show Try.prog.cellsOf 3 = 1 by kernel_rfl] at g1
    obtain ⟨b1, e1, f1, u1⟩ := DataW.trod_int Try.underlying3 g1
    simp only [List.cons.injEq, and_true] at e1
    subst e1
    subst f1
    have g2 := hg 2 _ rfl
    simp [Value.cells, show Try.prog.cellsOf 3 = 1 by kernel_rfl] at g2
    obtain ⟨b2, e2, f2, u2⟩ := DataW.trod_int Try.underlying3 g2
    simp only [List.cons.injEq, and_true] at e2
    subst e2
    subst f2
    have g3 := hg 3 _ rfl
    simp [Value.cells, show Try.prog.cellsOf 3 = 1 by kernel_rfl] at g3
    obtain ⟨b3, e3, f3, u3⟩ := DataW.trod_int Try.underlying3 g3
    simp only [List.cons.injEq, and_true] at e3
    subst e3
    subst f3
    have g4 := hg 4 _ rfl
    simp [Value.cells, show Try.prog.cellsOf 3 = 1 by kernel_rfl] at g4
    obtain ⟨b4, e4, f4, u4⟩ := DataW.trod_int Try.underlying3 g4
    simp only [List.cons.injEq, and_true] at e4
    subst e4
    subst f4
    have g5 := hg 5 _ rfl
    simp [Value.cells, show Try.prog.cellsOf 9 = 1 by kernel_rfl] at g5
    obtain ⟨b5, e5, f5, u5⟩ := DataW.trod_string Try.underlying9 g5
    simp only [List.cons.injEq, and_true] at e5
    subst e5
    subst f5
    exact ⟨b0, b1, b2, b3, b4, b5, rfl, rfl, u0, u1, u2, u3, u4, u5⟩
set_option maxRecDepth 100000 in
set_option linter.constructorNameAsVariable false in
set_option maxRecDepth 100000 in
set_option maxHeartbeats 4000000 in
theorem lifted (os : Os) (started : os.Started) (H : Type) (enc : TypeId × Value → H) :
    ReturnsInHanded {} Try.checked os 7 .any (Rows.fnExactPacketBytesSpec.pre6 enc Try.prog Try.f7 Rows.fnExactPacketBytesRow.domain false) (Rows.fnExactPacketBytesSpec.post enc Try.prog Try.f7 false true false false) := by
  refine returnsInHanded_of_change_sized (C := Try.checked) own started (by kernel_rfl) Try.func7
    (ChangeSpec.witness6 (enc := enc) (C := Try.checked) false ⟨#[], #[.agg #[.int .i64 0, .int .i64 0, .int .i64 0, .int .i64 0, .int .i64 0, .string ByteArray.empty]], []⟩ 8 (by kernel_rfl) (by kernel_rfl) (by kernel_rfl) (by kernel_rfl)) ?_
  intro W base args ds gs before hval0 hW hcnd hsz0 _
  have hsz : (DataW.weightsEach Try.prog (Try.f7.params.toList ++ Rows.fnExactPacketBytesSpec.plain.varTypes Try.prog) (ds ++ gs)).all (· ≤ reachBytes) = true := hsz0
  have hval : ∀ (j : Nat) t v, Try.f7.params[j]? = some t → args[j]? = some v → Value.okWide Try.prog W .any base t v := hval0
  have hW' := hW
  obtain ⟨p, q, hA0, hV, rfl, hfz, hnd⟩ := hW
  have hA : DataW.TrodAll enc Try.prog W 0 (fun _ => true) true Try.f7.params.toList args.toList ds p := hA0
  rw [Try.params7] at hA hval hsz
  obtain ⟨v0, vs0, d0, ds0, p0, q0, hargs, rfl, rfl, h0, r0⟩ := trodAll_cons hA
  obtain ⟨rfl, rfl, rfl⟩ := trodAll_nil r0
  obtain rfl : args = #[v0] := by cases args; simp_all
  obtain ⟨rfl, rfl⟩ := trodVars_none hV
  have k0 := h0
  have lt0 : ∀ x ∈ p0, x.block < W.heap.size := by obtain ⟨m, hm⟩ := k0; exact DataW.trod_lt m _ _ _ hm
  obtain ⟨a0_0, a0_1, a0_2, a0_3, a0_4, a0_5, rfl, rfl, w0_0, w0_1, w0_2, w0_3, w0_4, z0_5⟩ := open_T50 (hval 0 50 v0 rfl rfl) h0
  have w0_5 : a0_5.size ≤ 140737488351232 := by
    have z := sized_in hsz (j := 0) (t := 50) (i := 5) rfl rfl Try.underlying50 rfl rfl
    rw [Array.length_toList] at z
    exact z
  clear hA0 hval0 hsz0 hsz
  refine (PPb.laws_FnExactPacketBytes.walk Pure.FnExactPacketBytes a0_0 a0_1 a0_2 a0_3 a0_4 a0_5 W w0_0 w0_1 w0_2 w0_3 w0_4 w0_5).mono fun e W' ⟨he, bel⟩ => ?_
  subst he
  exact ⟨_, rfl, _, _, _, [], _, [], hW', trodAll_mk1 (shut_bool Try.underlying4 _), (trodAll_cons_mk (Below.trod laidOut (by kernel_rfl) (of_decide_eq_true (by kernel_rfl)) k0 bel lt0) trodAll_mk0), rfl, bel.frame _, fun h => by cases h⟩
theorem over : Rows.fnExactPacketBytesRow.holds Try.pinned (OpenSpec.ofChange Rows.fnExactPacketBytesSpec) :=
  OpenClaim.holds_of_wide 7 Try.f7 rfl rfl rfl rfl rfl rfl rfl ⟨rfl, rfl, rfl, rfl, rfl⟩ rfl rfl rfl rfl rfl (by kernel_rfl) Try.func7 (by kernel_rfl)
    (of_decide_eq_true (by kernel_rfl)) (by unfold Func.isWrapper; first | (rw [if_pos (by decide +kernel)]; kernel_rfl) | (rw [if_neg (by decide +kernel)]; exact ⟨rfl, rfl⟩))
    (fun os started H enc _ => lifted os started H enc)
theorem proved : Rows.FnExactPacketBytesSaid := over
#print axioms proved
end Go.Proofs.Ythfhflgiblmooaa.fnExactPacketBytes
namespace Go.Proofs.Ythfhflgiblmooaa
/-- The row, under a short name, for the claim. -/
theorem fnExactPacketBytes_holds : Rows.FnExactPacketBytesSaid := fnExactPacketBytes.proved
end Go.Proofs.Ythfhflgiblmooaa
