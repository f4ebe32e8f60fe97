-- Printed by this session's own program (wip/tools/myprint.py over the kit's print, out of the translation). Nothing here is trusted: Lean checks it.
import Derived.Test.YthfhflgiblmooaaRows
import Derived.Test.YthfhflgiblmooaaPDhx5
import Derived.Test.YthfhflgiblmooaaPureFnExactDhcpBytes
import Derived.WalkKit
import Derived.ProofKit
import Derived.OpenShut
import Derived.ShutString
import Derived.ChangeOld
import Derived.Below
import Derived.SizedLaws
import Derived.Test.YthfhflgiblmooaaWSized
namespace Go.Proofs.Ythfhflgiblmooaa.fnExactDhcpBytes
open Go.ChangeShapes Go.WideShapes Go.ChangeAt Go.RowKit
open Go.ChangeMaps (open_string shut_string)
set_option linter.unusedVariables false
set_option linter.unusedSimpArgs false
theorem own : ownKnob Try.prog.godebug = none := by kernel_rfl
theorem laidOut : laidOutB Try.prog = true := by kernel_rfl
def IsRow (k : IntKind) (w : World) (a : Option Addr) (len cap : Nat) (zs : List Int) : Prop :=
  (a = none ∧ len = 0 ∧ cap = 0 ∧ zs = []) ∨
  ∃ x, a = some x ∧ len ≤ cap ∧ cap ≤ maxLen ∧ zs.length = cap ∧ (∀ i, i < zs.length → w.cell? (x.add i) = some (.int k (zs.getD i 0))) ∧ ∀ n ∈ zs, (Lit.int k n).wf = true
theorem sized_in {H : Type} {P : Program} {ts : List TypeId} {ds : List (DataW H)} (h : (DataW.weightsEach P ts ds).all (· ≤ reachBytes) = true) {j : Nat} {t : TypeId} {fs : Array Field} {parts : List (DataW H)} {i : Nat} {t' : TypeId} {bytes : List UInt8}
    (ht : ts[j]? = some t) (hd : ds[j]? = some (.agg parts)) (hu : P.underlying t = some (.struct fs)) (hf : (fs.toList.map (·.type))[i]? = some t') (hp : parts[i]? = some (.lit (.string bytes))) : bytes.length ≤ reachBytes := by
  have z := List.all_eq_true.1 h _ (DataW.weights_mem_each ht hd bytes.length (by
    simp only [DataW.weights, hu]
    exact DataW.weights_mem_each hf hp _ (by simp [DataW.weights])))
  simpa using z
set_option linter.constructorNameAsVariable false in
set_option maxRecDepth 100000 in
set_option maxHeartbeats 4000000 in
theorem open_T43 {H : Type} {enc : TypeId × Value → H} {W : World} {r : Reach} {b0 base : Nat} {spare : Nat → Bool} {held : Bool} {v : Value} {d : DataW H} {p : List MemPlace} (hv : Value.okWide Try.prog W r b0 43 v) (h : DataW.Trod enc Try.prog W base spare held 43 v d p) :
    ∃ (a0 : Int) (a1 : Int) (a2 : Int) (a3 : Bool) (a4 : ByteArray), v = .agg #[.int .i64 a0, .int .i64 a1, .int .i64 a2, .bool a3, .string a4] ∧ d = .agg [.lit (.int .i64 a0), .lit (.int .i64 a1), .lit (.int .i64 a2), .lit (.bool a3), .lit (.string a4.data.toList)] ∧ (Lit.int .i64 a0).wf = true ∧ (Lit.int .i64 a1).wf = true ∧ (Lit.int .i64 a2).wf = true ∧ a4.size ≤ maxLen := by
  obtain ⟨cs, rfl, hz⟩ := okWide_struct Try.underlying43 hv
  obtain ⟨l⟩ := cs
  obtain ⟨fuel, hf⟩ := h
  obtain ⟨xs, m, _, hx, _, hlen, hg⟩ := DataW.trod_struct Try.underlying43 hf
  have hz' : l.length = 5 := hz.trans (show Try.prog.cellsOf 43 = 5 by kernel_rfl)
  simp only [Prod.mk.injEq] at hx
  obtain ⟨rfl, _⟩ := hx
  clear hv hz hf
  match l, hz', xs, hlen with
  | [c0, c1, c2, c3, c4], _, [y0, y1, y2, y3, y4], _ =>
    have g0 := hg 0 _ rfl
    simp [Value.cells, show Try.prog.cellsOf 3 = 1 by kernel_rfl] at g0
    obtain ⟨b0, e0, f0, u0⟩ := DataW.trod_int Try.underlying3 g0
    simp only [List.cons.injEq, and_true] at e0
    subst e0
    subst f0
    have g1 := hg 1 _ rfl
    simp [Value.cells, show Try.prog.cellsOf 3 = 1 by kernel_rfl] at g1
    obtain ⟨b1, e1, f1, u1⟩ := DataW.trod_int Try.underlying3 g1
    simp only [List.cons.injEq, and_true] at e1
    subst e1
    subst f1
    have g2 := hg 2 _ rfl
    simp [Value.cells, show Try.prog.cellsOf 3 = 1 by kernel_rfl] at g2
    obtain ⟨b2, e2, f2, u2⟩ := DataW.trod_int Try.underlying3 g2
    simp only [List.cons.injEq, and_true] at e2
    subst e2
    subst f2
    have g3 := hg 3 _ rfl
    simp [Value.cells, show Try.prog.cellsOf 4 = 1 by kernel_rfl] at g3
    obtain ⟨b3, e3, f3⟩ := DataW.trod_bool Try.underlying4 g3
    simp only [List.cons.injEq, and_true] at e3
    subst e3
    subst f3
    have g4 := hg 4 _ rfl
    simp [Value.cells, show Try.prog.cellsOf 9 = 1 by kernel_rfl] at g4
    obtain ⟨b4, e4, f4, u4⟩ := DataW.trod_string Try.underlying9 g4
    simp only [List.cons.injEq, and_true] at e4
    subst e4
    subst f4
    exact ⟨b0, b1, b2, b3, b4, rfl, rfl, u0, u1, u2, u4⟩
set_option maxRecDepth 100000 in
set_option linter.constructorNameAsVariable false in
set_option maxRecDepth 100000 in
set_option maxHeartbeats 4000000 in
theorem lifted (os : Os) (started : os.Started) (H : Type) (enc : TypeId × Value → H) :
    ReturnsInHanded {} Try.checked os 6 .any (Rows.fnExactDhcpBytesSpec.pre6 enc Try.prog Try.f6 Rows.fnExactDhcpBytesRow.domain false) (Rows.fnExactDhcpBytesSpec.post enc Try.prog Try.f6 false true false false) := by
  refine returnsInHanded_of_change_sized (C := Try.checked) own started (by kernel_rfl) Try.func6
    (ChangeSpec.witness6 (enc := enc) (C := Try.checked) false ⟨#[], #[.agg #[.int .i64 0, .int .i64 0, .int .i64 0, .bool false, .string ByteArray.empty]], []⟩ 8 (by kernel_rfl) (by kernel_rfl) (by kernel_rfl) (by kernel_rfl)) ?_
  intro W base args ds gs before hval0 hW hcnd hsz0 _
  have hsz : (DataW.weightsEach Try.prog (Try.f6.params.toList ++ Rows.fnExactDhcpBytesSpec.plain.varTypes Try.prog) (ds ++ gs)).all (· ≤ reachBytes) = true := hsz0
  have hval : ∀ (j : Nat) t v, Try.f6.params[j]? = some t → args[j]? = some v → Value.okWide Try.prog W .any base t v := hval0
  have hW' := hW
  obtain ⟨p, q, hA0, hV, rfl, hfz, hnd⟩ := hW
  have hA : DataW.TrodAll enc Try.prog W 0 (fun _ => true) true Try.f6.params.toList args.toList ds p := hA0
  rw [Try.params6] at hA hval hsz
  obtain ⟨v0, vs0, d0, ds0, p0, q0, hargs, rfl, rfl, h0, r0⟩ := trodAll_cons hA
  obtain ⟨rfl, rfl, rfl⟩ := trodAll_nil r0
  obtain rfl : args = #[v0] := by cases args; simp_all
  obtain ⟨rfl, rfl⟩ := trodVars_none hV
  have k0 := h0
  have lt0 : ∀ x ∈ p0, x.block < W.heap.size := by obtain ⟨m, hm⟩ := k0; exact DataW.trod_lt m _ _ _ hm
  obtain ⟨a0_0, a0_1, a0_2, a0_3, a0_4, rfl, rfl, w0_0, w0_1, w0_2, z0_4⟩ := open_T43 (hval 0 43 v0 rfl rfl) h0
  have w0_4 : a0_4.size ≤ 140737488351232 := by
    have z := sized_in hsz (j := 0) (t := 43) (i := 4) rfl rfl Try.underlying43 rfl rfl
    rw [Array.length_toList] at z
    exact z
  clear hA0 hval0 hsz0 hsz
  refine (PDh.laws_FnExactDhcpBytes.walk Pure.FnExactDhcpBytes a0_0 a0_1 a0_2 a0_3 a0_4 W w0_0 w0_1 w0_2 w0_4).mono fun e W' ⟨he, bel⟩ => ?_
  subst he
  exact ⟨_, rfl, _, _, _, [], _, [], hW', trodAll_mk1 (shut_bool Try.underlying4 _), (trodAll_cons_mk (Below.trod laidOut (by kernel_rfl) (of_decide_eq_true (by kernel_rfl)) k0 bel lt0) trodAll_mk0), rfl, bel.frame _, fun h => by cases h⟩
theorem over : Rows.fnExactDhcpBytesRow.holds Try.pinned (OpenSpec.ofChange Rows.fnExactDhcpBytesSpec) :=
  OpenClaim.holds_of_wide 6 Try.f6 rfl rfl rfl rfl rfl rfl rfl ⟨rfl, rfl, rfl, rfl, rfl⟩ rfl rfl rfl rfl rfl (by kernel_rfl) Try.func6 (by kernel_rfl)
    (of_decide_eq_true (by kernel_rfl)) (by unfold Func.isWrapper; first | (rw [if_pos (by decide +kernel)]; kernel_rfl) | (rw [if_neg (by decide +kernel)]; exact ⟨rfl, rfl⟩))
    (fun os started H enc _ => lifted os started H enc)
theorem proved : Rows.FnExactDhcpBytesSaid := over
#print axioms proved
end Go.Proofs.Ythfhflgiblmooaa.fnExactDhcpBytes
namespace Go.Proofs.Ythfhflgiblmooaa
/-- The row, under a short name, for the claim. -/
theorem fnExactDhcpBytes_holds : Rows.FnExactDhcpBytesSaid := fnExactDhcpBytes.proved
end Go.Proofs.Ythfhflgiblmooaa
