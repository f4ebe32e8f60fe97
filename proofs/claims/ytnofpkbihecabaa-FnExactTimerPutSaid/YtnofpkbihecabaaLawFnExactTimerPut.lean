-- Printed by this session's own program (wip/tools/myprint.py over the kit's print, out of the translation). Nothing here is trusted: Lean checks it.
import Derived.Test.YtnofpkbihecabaaRows
import Derived.Test.YtnofpkbihecabaaPTqx7
import Derived.Test.YtnofpkbihecabaaPureFnExactTimerPut
import Derived.WalkKit
import Derived.ProofKit
import Derived.OpenShut
import Derived.ShutString
import Derived.ChangeOld
import Derived.Below
import Derived.SizedLaws
import Derived.Test.YtnofpkbihecabaaWSized
namespace Go.Proofs.Ytnofpkbihecabaa.fnExactTimerPut
open Go.ChangeShapes Go.WideShapes Go.ChangeAt Go.RowKit
open Go.ChangeMaps (open_string shut_string)
set_option linter.unusedVariables false
set_option linter.unusedSimpArgs false
theorem own : ownKnob Try.prog.godebug = none := by kernel_rfl
theorem laidOut : laidOutB Try.prog = true := by kernel_rfl
def IsRow (k : IntKind) (w : World) (a : Option Addr) (len cap : Nat) (zs : List Int) : Prop :=
  (a = none ∧ len = 0 ∧ cap = 0 ∧ zs = []) ∨
  ∃ x, a = some x ∧ len ≤ cap ∧ cap ≤ maxLen ∧ zs.length = cap ∧ (∀ i, i < zs.length → w.cell? (x.add i) = some (.int k (zs.getD i 0))) ∧ ∀ n ∈ zs, (Lit.int k n).wf = true
theorem sized_in {H : Type} {P : Program} {ts : List TypeId} {ds : List (DataW H)} (h : (DataW.weightsEach P ts ds).all (· ≤ reachBytes) = true) {j : Nat} {t : TypeId} {fs : Array Field} {parts : List (DataW H)} {i : Nat} {t' : TypeId} {bytes : List UInt8}
    (ht : ts[j]? = some t) (hd : ds[j]? = some (.agg parts)) (hu : P.underlying t = some (.struct fs)) (hf : (fs.toList.map (·.type))[i]? = some t') (hp : parts[i]? = some (.lit (.string bytes))) : bytes.length ≤ reachBytes := by
  have z := List.all_eq_true.1 h _ (DataW.weights_mem_each ht hd bytes.length (by
    simp only [DataW.weights, hu]
    exact DataW.weights_mem_each hf hp _ (by simp [DataW.weights])))
  simpa using z
set_option linter.constructorNameAsVariable false in
set_option maxRecDepth 100000 in
set_option maxHeartbeats 4000000 in
theorem open_T43 {H : Type} {enc : TypeId × Value → H} {W : World} {r : Reach} {b0 base : Nat} {spare : Nat → Bool} {held : Bool} {v : Value} {d : DataW H} {p : List MemPlace} (hv : Value.okWide Try.prog W r b0 43 v) (h : DataW.Trod enc Try.prog W base spare held 43 v d p) :
    ∃ (a0 : Int) (a1 : Int), v = .agg #[.int .i64 a0, .int .i64 a1] ∧ d = .agg [.lit (.int .i64 a0), .lit (.int .i64 a1)] ∧ (Lit.int .i64 a0).wf = true ∧ (Lit.int .i64 a1).wf = true := by
  obtain ⟨cs, rfl, hz⟩ := okWide_struct Try.underlying43 hv
  obtain ⟨l⟩ := cs
  obtain ⟨fuel, hf⟩ := h
  obtain ⟨xs, m, _, hx, _, hlen, hg⟩ := DataW.trod_struct Try.underlying43 hf
  have hz' : l.length = 2 := hz.trans (show Try.prog.cellsOf 43 = 2 by kernel_rfl)
  simp only [Prod.mk.injEq] at hx
  obtain ⟨rfl, _⟩ := hx
  clear hv hz hf
  match l, hz', xs, hlen with
  | [c0, c1], _, [y0, y1], _ =>
    have g0 := hg 0 _ rfl
    simp [Value.cells, show Try.prog.cellsOf 3 = 1 by kernel_rfl] at g0
    obtain ⟨b0, e0, f0, u0⟩ := DataW.trod_int Try.underlying3 g0
    simp only [List.cons.injEq, and_true] at e0
    subst e0
    subst f0
    have g1 := hg 1 _ rfl
    simp [Value.cells, show Try.prog.cellsOf 3 = 1 by kernel_rfl] at g1
    obtain ⟨b1, e1, f1, u1⟩ := DataW.trod_int Try.underlying3 g1
    simp only [List.cons.injEq, and_true] at e1
    subst e1
    subst f1
    exact ⟨b0, b1, rfl, rfl, u0, u1⟩
open Go.Proofs.YtnofpkbihecabaaW.PrintWords Go.Proofs.YtnofpkbihecabaaW.PrintLast Go.Proofs.YtnofpkbihecabaaW.PrintMore Go.Proofs.Ytnofpkbihecabaa.PTq
theorem add_one2 (b : Addr) (k : Nat) : (b.add k).add 1 = b.add (k + 1) := by
  unfold Addr.add
  by_cases hk : k = 0 <;> simp [hk, Nat.add_assoc]
def valOf (c : Option Value) : Int := match c with | some (.int _ n) => n | _ => 0
theorem open_R37 {H : Type} {enc : TypeId × Value → H} {w : World} {base : Nat} {spare : Nat → Bool} {held : Bool} {fuel : Nat} {cs : List Value} {x : DataW H × List MemPlace} (h : DataW.trod enc Try.prog w base spare held fuel 37 cs = some x) :
    cs = [.slice none 0 0] ∨ ∃ (a : Addr) (cap : Nat) (zs : List S43) (el sp : List (DataW H)), cs = [.slice (some a) zs.length cap] ∧ zs.length ≤ cap ∧ cap ≤ maxLen ∧ x.1 = .slice el sp ∧ zs.length ≤ el.length + sp.length ∧ Kd.C k43 w (some a) zs.length zs ∧ (∀ z ∈ zs, (Lit.int .i64 z.f0).wf = true ∧ (Lit.int .i64 z.f1).wf = true) := by
  rcases DataW.trod_slice Try.underlying37 h with ⟨h0, _⟩ | ⟨a, len, cap, elems, rest, n, _, rfl, rfl, hb, hl, hm, hlen, hel, hsp, hns⟩
  · exact Or.inl h0
  right
  have each : ∀ i, i < len → ∃ n0 n1, w.cell? (a.add (i * 2)) = some (.int .i64 n0) ∧ w.cell? (a.add (i * 2 + 1)) = some (.int .i64 n1) ∧ (Lit.int .i64 n0).wf = true ∧ (Lit.int .i64 n1).wf = true := by
    intro i hi
    have hE := hel i hi
    rw [show Try.prog.cellsOf 43 = 2 by kernel_rfl, List.getElem?_eq_getElem (by omega), Option.bind_eq_some_iff] at hE
    obtain ⟨c, hc, hy⟩ := hE
    obtain ⟨_, hc2, hcell⟩ := World.cells?_some hc
    obtain ⟨y0, y1, m, _, _, h0, h1⟩ := ChangeShapes.trod_struct2 Try.underlying43 hy
    match c, hc2 with
    | [c0, c1], _ =>
      simp only [show Try.prog.cellsOf 3 = 1 by kernel_rfl, List.drop_zero, List.drop_succ_cons, List.take_succ_cons, List.take_zero] at h0 h1
      obtain ⟨n0, e0, _, w0⟩ := DataW.trod_int Try.underlying3 h0
      obtain ⟨n1, e1, _, w1⟩ := DataW.trod_int Try.underlying3 h1
      have a0 := hcell 0 (by omega)
      have a1 := hcell 1 (by omega)
      injection e0 with e0 _
      injection e1 with e1 _
      subst e0 e1
      refine ⟨n0, n1, ?_, ?_, w0, w1⟩
      · simpa [Addr.add] using a0
      · rw [← add_one2]; exact a1
  let f : Nat → S43 := fun i => ⟨valOf (w.cell? (a.add (i * 2))), valOf (w.cell? (a.add (i * 2 + 1)))⟩
  have hfl : ((List.range len).map f).length = len := by simp
  refine ⟨a, cap, (List.range len).map f, elems.map (·.1), rest.map (·.1), by rw [hfl], by rw [hfl]; exact hl, hm, rfl, by simp; omega, ⟨rfl, ?_, fun _ => ⟨a, rfl, fun j p hj => ?_⟩⟩, ?_⟩
  · rw [hfl]; unfold maxLen at hm; omega
  · obtain ⟨hj1, hj2⟩ := List.getElem?_eq_some_iff.1 hj
    simp at hj1 hj2
    obtain ⟨n0, n1, c0, c1, _, _⟩ := each j hj1
    subst hj2
    refine ⟨[.int .i64 n0, .int .i64 n1], rfl, ?_, ?_⟩
    · have e : f j = ⟨n0, n1⟩ := by show S43.mk (valOf _) (valOf _) = _; rw [c0, c1]; rfl
      rw [e]; exact k43_mk w ⟨n0, n1⟩
    · intro i u hu
      match i with
      | 0 => simp at hu; subst hu; exact c0
      | 1 => simp at hu; subst hu; exact c1
      | (q + 2) => simp at hu
  · intro z hz
    obtain ⟨j, hj, rfl⟩ := List.mem_map.1 hz
    obtain ⟨n0, n1, c0, c1, w0, w1⟩ := each j (by simpa using hj)
    have e : f j = ⟨n0, n1⟩ := by show S43.mk (valOf _) (valOf _) = _; rw [c0, c1]; rfl
    rw [e]; exact ⟨w0, w1⟩
theorem sized_R37 {H : Type} {enc : TypeId × Value → H} {W : World} {base : Nat} {spare : Nat → Bool} {held : Bool} {a : Option Addr} {len cap : Nat} {d : DataW H} {ps : List MemPlace} {ts : List TypeId} {ds : List (DataW H)} {j : Nat}
    (hsz : (DataW.weightsEach Try.prog ts ds).all (· ≤ reachBytes) = true) (ht : ts[j]? = some 37) (hd : ds[j]? = some d) (h : DataW.Trod enc Try.prog W base spare held 37 (.slice a len cap) d ps) :
    ∃ l : List S43, len = l.length ∧ Kd.C k43 W a l.length l ∧ l.length ≤ maxLen ∧ l.length ≤ cap ∧ l.length * 16 ≤ 140737488351232 ∧ ∀ z ∈ l, (Lit.int .i64 z.f0).wf = true ∧ (Lit.int .i64 z.f1).wf = true := by
  obtain ⟨fuel, hf⟩ := h
  rcases open_R37 hf with hcs | ⟨x, c, zs, el, sp, hcs, hl, hm, hx, hle, hC, hw⟩
  · simp [Value.cells] at hcs
    obtain ⟨rfl, rfl, rfl⟩ := hcs
    exact ⟨[], rfl, ⟨rfl, by simp, by simp⟩, by simp, by simp, by simp, by simp⟩
  · simp [Value.cells] at hcs
    obtain ⟨rfl, rfl, rfl⟩ := hcs
    simp only at hx
    subst hx
    have z := sized_slice hsz ht hd Try.underlying37
    rw [show Try.prog.bytesOf 43 = 16 by kernel_rfl] at z
    exact ⟨zs, rfl, hC, by omega, hl, Nat.le_trans (Nat.mul_le_mul_right _ hle) z, hw⟩
set_option maxRecDepth 100000 in
set_option linter.constructorNameAsVariable false in
set_option maxRecDepth 100000 in
set_option maxHeartbeats 4000000 in
theorem lifted (os : Os) (started : os.Started) (H : Type) (enc : TypeId × Value → H) :
    ReturnsInHanded {} Try.checked os 6 .any (Rows.fnExactTimerPutSpec.pre6 enc Try.prog Try.f6 Rows.fnExactTimerPutRow.domain false) (Rows.fnExactTimerPutSpec.post enc Try.prog Try.f6 false true false false) := by
  refine returnsInHanded_of_change_sized (C := Try.checked) own started (by kernel_rfl) Try.func6
    (ChangeSpec.witness6 (enc := enc) (C := Try.checked) false ⟨#[], #[.slice none 0 0, .agg #[.int .i64 0, .int .i64 0]], []⟩ 8 (by kernel_rfl) (by kernel_rfl) (by kernel_rfl) (by kernel_rfl)) ?_
  intro W base args ds gs before hval0 hW hcnd hsz0 _
  have hsz : (DataW.weightsEach Try.prog (Try.f6.params.toList ++ Rows.fnExactTimerPutSpec.plain.varTypes Try.prog) (ds ++ gs)).all (· ≤ reachBytes) = true := hsz0
  have hval : ∀ (j : Nat) t v, Try.f6.params[j]? = some t → args[j]? = some v → Value.okWide Try.prog W .any base t v := hval0
  have hW' := hW
  obtain ⟨p, q, hA0, hV, rfl, hfz, hnd⟩ := hW
  have hA : DataW.TrodAll enc Try.prog W 0 (fun _ => true) true Try.f6.params.toList args.toList ds p := hA0
  rw [Try.params6] at hA hval hsz
  obtain ⟨v0, vs0, d0, ds0, p0, q0, hargs, rfl, rfl, h0, r0⟩ := trodAll_cons hA
  obtain ⟨v1, vs1, d1, ds1, p1, q1, rfl, rfl, rfl, h1, r1⟩ := trodAll_cons r0
  obtain ⟨rfl, rfl, rfl⟩ := trodAll_nil r1
  obtain rfl : args = #[v0, v1] := by cases args; simp_all
  obtain ⟨rfl, rfl⟩ := trodVars_none hV
  obtain ⟨a0, len0, cap0, rfl⟩ := okWide_slice Try.underlying37 (hval 0 37 v0 rfl rfl)
  have k0 := h0
  have lt0 : ∀ x ∈ p0, x.block < W.heap.size := by obtain ⟨m, hm⟩ := k0; exact DataW.trod_lt m _ _ _ hm
  obtain ⟨l0, rfl, w0, hm0, c0, y0, hw0⟩ := sized_R37 hsz (j := 0) rfl rfl h0
  have k1 := h1
  have lt1 : ∀ x ∈ p1, x.block < W.heap.size := by obtain ⟨m, hm⟩ := k1; exact DataW.trod_lt m _ _ _ hm
  obtain ⟨a1_0, a1_1, rfl, rfl, w1_0, w1_1⟩ := open_T43 (hval 1 43 v1 rfl rfl) h1
  clear hA0 hval0 hsz0 hsz
  refine (PTq.laws_FnExactTimerPut.walk Pure.FnExactTimerPut a0 cap0 l0 a1_0 a1_1 W w0 c0 hm0 y0 hw0 w1_0 w1_1).mono fun e W' ⟨he, bel⟩ => ?_
  subst he
  exact ⟨_, rfl, _, _, _, [], _, [], hW', trodAll_mk1 (shut_bool Try.underlying4 _), (trodAll_cons_mk (Below.trod laidOut (by kernel_rfl) (of_decide_eq_true (by kernel_rfl)) k0 bel lt0) (trodAll_cons_mk (Below.trod laidOut (by kernel_rfl) (of_decide_eq_true (by kernel_rfl)) k1 bel lt1) trodAll_mk0)), rfl, bel.frame _, fun h => by cases h⟩
theorem over : Rows.fnExactTimerPutRow.holds Try.pinned (OpenSpec.ofChange Rows.fnExactTimerPutSpec) :=
  OpenClaim.holds_of_wide 6 Try.f6 rfl rfl rfl rfl rfl rfl rfl ⟨rfl, rfl, rfl, rfl, rfl⟩ rfl rfl rfl rfl rfl (by kernel_rfl) Try.func6 (by kernel_rfl)
    (of_decide_eq_true (by kernel_rfl)) (by unfold Func.isWrapper; first | (rw [if_pos (by decide +kernel)]; kernel_rfl) | (rw [if_neg (by decide +kernel)]; exact ⟨rfl, rfl⟩))
    (fun os started H enc _ => lifted os started H enc)
theorem proved : Rows.FnExactTimerPutSaid := over
#print axioms proved
end Go.Proofs.Ytnofpkbihecabaa.fnExactTimerPut
namespace Go.Proofs.Ytnofpkbihecabaa
/-- The row, under a short name, for the claim. -/
theorem fnExactTimerPut_holds : Rows.FnExactTimerPutSaid := fnExactTimerPut.proved
end Go.Proofs.Ytnofpkbihecabaa
