/-
  No cell of these rows narrows 'for every input' (looked for: loops, veiled, ifaces, maps, wideKeys, modest, calm, conditions, laid).
  DERIVED. THE GIVEN ROWS OF THIS SEAT. 12 by the template 'for every input the law returns true; each argument reads behind the call as it read before'; 0 by the template 'total and deterministic' (their statements: YtmandhjfdfjmoaaTotals.lean).
  GIVEN WITH THE SEED: the statements are not yours to turn. If you find one false, say at which input.
  Laid BY PROGRAM, IN A SANDBOX (cutbox-rows.mjs): the forced cells as the released guide's own fill.sh prints them over the translation dcc104a8b4889eb1… (all of the seat's roots in one cut). By AI agents, Wed Nov 11 2026. No macro, syntax, notation, axiom, sorry.
-/
import Derived.Test.YtmandhjfdfjmoaaChecked
import GoSem.Claim
import GoSem.ClaimJoined
import GoSem.ClaimMapViews
import Derived.JoinedTies
import Derived.KernelRfl
namespace Go.Proofs.Ytmandhjfdfjmoaa
/- THE CELL 'sum', in the pinned program and in every row, IS THE sha256 OF THE DUMP (.gsa) THAT YtmandhjfdfjmoaaProg.lean LOADS. Nothing in Lean hashes anything: it is a label: what it is worth is what the hold of that sum in a sandbox is worth. -/
noncomputable def Try.pinned : Pinned := { name := "ytmandhjfdfjmoaa", sum := "dcc104a8b4889eb1bbfc3b9b00e606c54b0ce3a2437852a3ad80f247352b76c8", checked := Try.checked }
namespace Rows
def none {H : Type} : Left H := { results := [], args := [] }

/-- 'laws.FnExactConstants': WHATEVER THE INPUT: true; the input reads as it did. -/
def fnExactConstantsSpec : ChangeSpec := { name := "fnExactConstants", fn := fun _ => fun
  | [] => { results := [.lit (.bool true)], args := [] }
  | _ => none }
def fnExactConstantsRow : OpenClaim := { program := "ytmandhjfdfjmoaa", sum := "dcc104a8b4889eb1bbfc3b9b00e606c54b0ce3a2437852a3ad80f247352b76c8", func := "loop.example/g00356/laws.FnExactConstants", spec := "fnExactConstants", apart := false }
def FnExactConstantsSaid : Prop := fnExactConstantsRow.holds Try.pinned (OpenSpec.ofChange fnExactConstantsSpec)

/-- ITS FALSE NEIGHBOUR: 'it returns false'. Refute it at one input. -/
def fnExactConstantsWrong : ChangeSpec := { name := "fnExactConstants", fn := fun _ => fun
  | [] => { results := [.lit (.bool false)], args := [] }
  | _ => none }
def FnExactConstantsWrongFalsely : Prop := fnExactConstantsRow.holds Try.pinned (OpenSpec.ofChange fnExactConstantsWrong)

/-- 'laws.FnExactSameHash': WHATEVER THE INPUT: true; the input reads as it did. -/
def fnExactSameHashSpec : ChangeSpec := { name := "fnExactSameHash", fn := fun _ => fun
  | [d1, d2] => { results := [.lit (.bool true)], args := [d1, d2] }
  | _ => none }
def fnExactSameHashRow : OpenClaim := { program := "ytmandhjfdfjmoaa", sum := "dcc104a8b4889eb1bbfc3b9b00e606c54b0ce3a2437852a3ad80f247352b76c8", func := "loop.example/g00356/laws.FnExactSameHash", spec := "fnExactSameHash", apart := false }
def FnExactSameHashSaid : Prop := fnExactSameHashRow.holds Try.pinned (OpenSpec.ofChange fnExactSameHashSpec)

/-- ITS FALSE NEIGHBOUR: 'it returns false'. Refute it at one input. -/
def fnExactSameHashWrong : ChangeSpec := { name := "fnExactSameHash", fn := fun _ => fun
  | [d1, d2] => { results := [.lit (.bool false)], args := [d1, d2] }
  | _ => none }
def FnExactSameHashWrongFalsely : Prop := fnExactSameHashRow.holds Try.pinned (OpenSpec.ofChange fnExactSameHashWrong)

/-- 'laws.FnExactNetOK': WHATEVER THE INPUT: true; the input reads as it did. -/
def fnExactNetOKSpec : ChangeSpec := { name := "fnExactNetOK", fn := fun _ => fun
  | [d] => { results := [.lit (.bool true)], args := [d] }
  | _ => none }
def fnExactNetOKRow : OpenClaim := { program := "ytmandhjfdfjmoaa", sum := "dcc104a8b4889eb1bbfc3b9b00e606c54b0ce3a2437852a3ad80f247352b76c8", func := "loop.example/g00356/laws.FnExactNetOK", spec := "fnExactNetOK", apart := false }
def FnExactNetOKSaid : Prop := fnExactNetOKRow.holds Try.pinned (OpenSpec.ofChange fnExactNetOKSpec)

/-- ITS FALSE NEIGHBOUR: 'it returns false'. Refute it at one input. -/
def fnExactNetOKWrong : ChangeSpec := { name := "fnExactNetOK", fn := fun _ => fun
  | [d] => { results := [.lit (.bool false)], args := [d] }
  | _ => none }
def FnExactNetOKWrongFalsely : Prop := fnExactNetOKRow.holds Try.pinned (OpenSpec.ofChange fnExactNetOKWrong)

/-- 'laws.FnExactCodeWord': WHATEVER THE INPUT: true; the input reads as it did. -/
def fnExactCodeWordSpec : ChangeSpec := { name := "fnExactCodeWord", fn := fun _ => fun
  | [d] => { results := [.lit (.bool true)], args := [d] }
  | _ => none }
def fnExactCodeWordRow : OpenClaim := { program := "ytmandhjfdfjmoaa", sum := "dcc104a8b4889eb1bbfc3b9b00e606c54b0ce3a2437852a3ad80f247352b76c8", func := "loop.example/g00356/laws.FnExactCodeWord", spec := "fnExactCodeWord", apart := false }
def FnExactCodeWordSaid : Prop := fnExactCodeWordRow.holds Try.pinned (OpenSpec.ofChange fnExactCodeWordSpec)

/-- ITS FALSE NEIGHBOUR: 'it returns false'. Refute it at one input. -/
def fnExactCodeWordWrong : ChangeSpec := { name := "fnExactCodeWord", fn := fun _ => fun
  | [d] => { results := [.lit (.bool false)], args := [d] }
  | _ => none }
def FnExactCodeWordWrongFalsely : Prop := fnExactCodeWordRow.holds Try.pinned (OpenSpec.ofChange fnExactCodeWordWrong)

/-- 'laws.FnExactCodeOf': WHATEVER THE INPUT: true; the input reads as it did. -/
def fnExactCodeOfSpec : ChangeSpec := { name := "fnExactCodeOf", fn := fun _ => fun
  | [d] => { results := [.lit (.bool true)], args := [d] }
  | _ => none }
def fnExactCodeOfRow : OpenClaim := { program := "ytmandhjfdfjmoaa", sum := "dcc104a8b4889eb1bbfc3b9b00e606c54b0ce3a2437852a3ad80f247352b76c8", func := "loop.example/g00356/laws.FnExactCodeOf", spec := "fnExactCodeOf", apart := false }
def FnExactCodeOfSaid : Prop := fnExactCodeOfRow.holds Try.pinned (OpenSpec.ofChange fnExactCodeOfSpec)

/-- ITS FALSE NEIGHBOUR: 'it returns false'. Refute it at one input. -/
def fnExactCodeOfWrong : ChangeSpec := { name := "fnExactCodeOf", fn := fun _ => fun
  | [d] => { results := [.lit (.bool false)], args := [d] }
  | _ => none }
def FnExactCodeOfWrongFalsely : Prop := fnExactCodeOfRow.holds Try.pinned (OpenSpec.ofChange fnExactCodeOfWrong)

/-- 'laws.FnExactFlagsText': WHATEVER THE INPUT: true; the input reads as it did. -/
def fnExactFlagsTextSpec : ChangeSpec := { name := "fnExactFlagsText", fn := fun _ => fun
  | [d] => { results := [.lit (.bool true)], args := [d] }
  | _ => none }
def fnExactFlagsTextRow : OpenClaim := { program := "ytmandhjfdfjmoaa", sum := "dcc104a8b4889eb1bbfc3b9b00e606c54b0ce3a2437852a3ad80f247352b76c8", func := "loop.example/g00356/laws.FnExactFlagsText", spec := "fnExactFlagsText", apart := false }
def FnExactFlagsTextSaid : Prop := fnExactFlagsTextRow.holds Try.pinned (OpenSpec.ofChange fnExactFlagsTextSpec)

/-- ITS FALSE NEIGHBOUR: 'it returns false'. Refute it at one input. -/
def fnExactFlagsTextWrong : ChangeSpec := { name := "fnExactFlagsText", fn := fun _ => fun
  | [d] => { results := [.lit (.bool false)], args := [d] }
  | _ => none }
def FnExactFlagsTextWrongFalsely : Prop := fnExactFlagsTextRow.holds Try.pinned (OpenSpec.ofChange fnExactFlagsTextWrong)

/-- 'laws.FnExactNameOK': WHATEVER THE INPUT: true; the input reads as it did. -/
def fnExactNameOKSpec : ChangeSpec := { name := "fnExactNameOK", fn := fun _ => fun
  | [d] => { results := [.lit (.bool true)], args := [d] }
  | _ => none }
def fnExactNameOKRow : OpenClaim := { program := "ytmandhjfdfjmoaa", sum := "dcc104a8b4889eb1bbfc3b9b00e606c54b0ce3a2437852a3ad80f247352b76c8", func := "loop.example/g00356/laws.FnExactNameOK", spec := "fnExactNameOK", apart := false }
def FnExactNameOKSaid : Prop := fnExactNameOKRow.holds Try.pinned (OpenSpec.ofChange fnExactNameOKSpec)

/-- ITS FALSE NEIGHBOUR: 'it returns false'. Refute it at one input. -/
def fnExactNameOKWrong : ChangeSpec := { name := "fnExactNameOK", fn := fun _ => fun
  | [d] => { results := [.lit (.bool false)], args := [d] }
  | _ => none }
def FnExactNameOKWrongFalsely : Prop := fnExactNameOKRow.holds Try.pinned (OpenSpec.ofChange fnExactNameOKWrong)

/-- 'laws.FnExactHashText': WHATEVER THE INPUT: true; the input reads as it did. -/
def fnExactHashTextSpec : ChangeSpec := { name := "fnExactHashText", fn := fun _ => fun
  | [d] => { results := [.lit (.bool true)], args := [d] }
  | _ => none }
def fnExactHashTextRow : OpenClaim := { program := "ytmandhjfdfjmoaa", sum := "dcc104a8b4889eb1bbfc3b9b00e606c54b0ce3a2437852a3ad80f247352b76c8", func := "loop.example/g00356/laws.FnExactHashText", spec := "fnExactHashText", apart := false }
def FnExactHashTextSaid : Prop := fnExactHashTextRow.holds Try.pinned (OpenSpec.ofChange fnExactHashTextSpec)

/-- ITS FALSE NEIGHBOUR: 'it returns false'. Refute it at one input. -/
def fnExactHashTextWrong : ChangeSpec := { name := "fnExactHashText", fn := fun _ => fun
  | [d] => { results := [.lit (.bool false)], args := [d] }
  | _ => none }
def FnExactHashTextWrongFalsely : Prop := fnExactHashTextRow.holds Try.pinned (OpenSpec.ofChange fnExactHashTextWrong)

/-- 'laws.FnExactNegOf': WHATEVER THE INPUT: true; the input reads as it did. -/
def fnExactNegOfSpec : ChangeSpec := { name := "fnExactNegOf", fn := fun _ => fun
  | [d] => { results := [.lit (.bool true)], args := [d] }
  | _ => none }
def fnExactNegOfRow : OpenClaim := { program := "ytmandhjfdfjmoaa", sum := "dcc104a8b4889eb1bbfc3b9b00e606c54b0ce3a2437852a3ad80f247352b76c8", func := "loop.example/g00356/laws.FnExactNegOf", spec := "fnExactNegOf", apart := false }
def FnExactNegOfSaid : Prop := fnExactNegOfRow.holds Try.pinned (OpenSpec.ofChange fnExactNegOfSpec)

/-- ITS FALSE NEIGHBOUR: 'it returns false'. Refute it at one input. -/
def fnExactNegOfWrong : ChangeSpec := { name := "fnExactNegOf", fn := fun _ => fun
  | [d] => { results := [.lit (.bool false)], args := [d] }
  | _ => none }
def FnExactNegOfWrongFalsely : Prop := fnExactNegOfRow.holds Try.pinned (OpenSpec.ofChange fnExactNegOfWrong)

/-- 'laws.FnExactShareOf': WHATEVER THE INPUT: true; the input reads as it did. -/
def fnExactShareOfSpec : ChangeSpec := { name := "fnExactShareOf", fn := fun _ => fun
  | [d1, d2] => { results := [.lit (.bool true)], args := [d1, d2] }
  | _ => none }
def fnExactShareOfRow : OpenClaim := { program := "ytmandhjfdfjmoaa", sum := "dcc104a8b4889eb1bbfc3b9b00e606c54b0ce3a2437852a3ad80f247352b76c8", func := "loop.example/g00356/laws.FnExactShareOf", spec := "fnExactShareOf", apart := false }
def FnExactShareOfSaid : Prop := fnExactShareOfRow.holds Try.pinned (OpenSpec.ofChange fnExactShareOfSpec)

/-- ITS FALSE NEIGHBOUR: 'it returns false'. Refute it at one input. -/
def fnExactShareOfWrong : ChangeSpec := { name := "fnExactShareOf", fn := fun _ => fun
  | [d1, d2] => { results := [.lit (.bool false)], args := [d1, d2] }
  | _ => none }
def FnExactShareOfWrongFalsely : Prop := fnExactShareOfRow.holds Try.pinned (OpenSpec.ofChange fnExactShareOfWrong)

/-- 'laws.FnExactClassOf': WHATEVER THE INPUT: true; the input reads as it did. -/
def fnExactClassOfSpec : ChangeSpec := { name := "fnExactClassOf", fn := fun _ => fun
  | [d] => { results := [.lit (.bool true)], args := [d] }
  | _ => none }
def fnExactClassOfRow : OpenClaim := { program := "ytmandhjfdfjmoaa", sum := "dcc104a8b4889eb1bbfc3b9b00e606c54b0ce3a2437852a3ad80f247352b76c8", func := "loop.example/g00356/laws.FnExactClassOf", spec := "fnExactClassOf", unfollowed := true, recurses := true, apart := false }
def FnExactClassOfSaid : Prop := fnExactClassOfRow.holds Try.pinned (OpenSpec.ofChange fnExactClassOfSpec)

/-- ITS FALSE NEIGHBOUR: 'it returns false'. Refute it at one input. -/
def fnExactClassOfWrong : ChangeSpec := { name := "fnExactClassOf", fn := fun _ => fun
  | [d] => { results := [.lit (.bool false)], args := [d] }
  | _ => none }
def FnExactClassOfWrongFalsely : Prop := fnExactClassOfRow.holds Try.pinned (OpenSpec.ofChange fnExactClassOfWrong)

/-- 'laws.FnExactMeterAdd': WHATEVER THE INPUT: true; the input reads as it did. -/
def fnExactMeterAddSpec : ChangeSpec := { name := "fnExactMeterAdd", fn := fun _ => fun
  | [d1, d2] => { results := [.lit (.bool true)], args := [d1, d2] }
  | _ => none }
def fnExactMeterAddRow : OpenClaim := { program := "ytmandhjfdfjmoaa", sum := "dcc104a8b4889eb1bbfc3b9b00e606c54b0ce3a2437852a3ad80f247352b76c8", func := "loop.example/g00356/laws.FnExactMeterAdd", spec := "fnExactMeterAdd", apart := false }
def FnExactMeterAddSaid : Prop := fnExactMeterAddRow.holds Try.pinned (OpenSpec.ofChange fnExactMeterAddSpec)

/-- ITS FALSE NEIGHBOUR: 'it returns false'. Refute it at one input. -/
def fnExactMeterAddWrong : ChangeSpec := { name := "fnExactMeterAdd", fn := fun _ => fun
  | [d1, d2] => { results := [.lit (.bool false)], args := [d1, d2] }
  | _ => none }
def FnExactMeterAddWrongFalsely : Prop := fnExactMeterAddRow.holds Try.pinned (OpenSpec.ofChange fnExactMeterAddWrong)

/- THE SECOND FORM. 'bulk': how many values and letters a reading holds, each counted each time it is reached (what is shared counts as often as it is met; a slice's spare places count too). A statement '..UptoSaid' is the law's where the arguments, and the package variables that the reading takes, are together of bulk at most 1048576: NARROWER than '..Said'. Prove '..Said' where nothing that the law and all that it calls make is longer than what came in: it says more and counts as full. Else prove '..UptoSaid'. A law counts once. -/
mutual
def uptoBulk {H : Type} : DataW H → Nat
  | .lit (.string bytes) => bytes.length + 1
  | .lit _ => 1
  | .nil => 1
  | .ptr d => uptoBulk d + 1
  | .slice elems spare => uptoBulkAll elems + uptoBulkAll spare + 1
  | .agg parts => uptoBulkAll parts + 1
  | .iface _ d => uptoBulk d + 1
  | .map entries => uptoBulkEntries entries + 1
  | .held _ => 1
def uptoBulkAll {H : Type} : List (DataW H) → Nat
  | [] => 0
  | d :: r => uptoBulk d + uptoBulkAll r
def uptoBulkEntries {H : Type} : List (Lit × DataW H) → Nat
  | [] => 0
  | x :: r => uptoBulkEntry x + uptoBulkEntries r
def uptoBulkEntry {H : Type} : Lit × DataW H → Nat
  | (.string bytes, d) => bytes.length + uptoBulk d + 1
  | (_, d) => uptoBulk d + 1
 end
def uptoSmall : (H : Type) → List (DataW H) → Bool := fun _ ds => decide (uptoBulkAll ds ≤ 1048576)
def OpenSpec.upto (s : _root_.Go.ChangeSpec) : _root_.Go.OpenSpec := { _root_.Go.OpenSpec.ofChange s with cond := some uptoSmall }

/-- 'laws.FnExactConstants', WHERE WHAT IT READS IS OF BULK AT MOST 1048576: true; the input reads as it did. -/
def fnExactConstantsUptoRow : OpenClaim := { program := "ytmandhjfdfjmoaa", sum := "dcc104a8b4889eb1bbfc3b9b00e606c54b0ce3a2437852a3ad80f247352b76c8", func := "loop.example/g00356/laws.FnExactConstants", spec := "fnExactConstants", apart := false, narrowed := true }
def FnExactConstantsUptoSaid : Prop := fnExactConstantsUptoRow.holds Try.pinned (OpenSpec.upto fnExactConstantsSpec)

/-- 'laws.FnExactSameHash', WHERE WHAT IT READS IS OF BULK AT MOST 1048576: true; the input reads as it did. -/
def fnExactSameHashUptoRow : OpenClaim := { program := "ytmandhjfdfjmoaa", sum := "dcc104a8b4889eb1bbfc3b9b00e606c54b0ce3a2437852a3ad80f247352b76c8", func := "loop.example/g00356/laws.FnExactSameHash", spec := "fnExactSameHash", apart := false, narrowed := true }
def FnExactSameHashUptoSaid : Prop := fnExactSameHashUptoRow.holds Try.pinned (OpenSpec.upto fnExactSameHashSpec)

/-- 'laws.FnExactNetOK', WHERE WHAT IT READS IS OF BULK AT MOST 1048576: true; the input reads as it did. -/
def fnExactNetOKUptoRow : OpenClaim := { program := "ytmandhjfdfjmoaa", sum := "dcc104a8b4889eb1bbfc3b9b00e606c54b0ce3a2437852a3ad80f247352b76c8", func := "loop.example/g00356/laws.FnExactNetOK", spec := "fnExactNetOK", apart := false, narrowed := true }
def FnExactNetOKUptoSaid : Prop := fnExactNetOKUptoRow.holds Try.pinned (OpenSpec.upto fnExactNetOKSpec)

/-- 'laws.FnExactCodeWord', WHERE WHAT IT READS IS OF BULK AT MOST 1048576: true; the input reads as it did. -/
def fnExactCodeWordUptoRow : OpenClaim := { program := "ytmandhjfdfjmoaa", sum := "dcc104a8b4889eb1bbfc3b9b00e606c54b0ce3a2437852a3ad80f247352b76c8", func := "loop.example/g00356/laws.FnExactCodeWord", spec := "fnExactCodeWord", apart := false, narrowed := true }
def FnExactCodeWordUptoSaid : Prop := fnExactCodeWordUptoRow.holds Try.pinned (OpenSpec.upto fnExactCodeWordSpec)

/-- 'laws.FnExactCodeOf', WHERE WHAT IT READS IS OF BULK AT MOST 1048576: true; the input reads as it did. -/
def fnExactCodeOfUptoRow : OpenClaim := { program := "ytmandhjfdfjmoaa", sum := "dcc104a8b4889eb1bbfc3b9b00e606c54b0ce3a2437852a3ad80f247352b76c8", func := "loop.example/g00356/laws.FnExactCodeOf", spec := "fnExactCodeOf", apart := false, narrowed := true }
def FnExactCodeOfUptoSaid : Prop := fnExactCodeOfUptoRow.holds Try.pinned (OpenSpec.upto fnExactCodeOfSpec)

/-- 'laws.FnExactFlagsText', WHERE WHAT IT READS IS OF BULK AT MOST 1048576: true; the input reads as it did. -/
def fnExactFlagsTextUptoRow : OpenClaim := { program := "ytmandhjfdfjmoaa", sum := "dcc104a8b4889eb1bbfc3b9b00e606c54b0ce3a2437852a3ad80f247352b76c8", func := "loop.example/g00356/laws.FnExactFlagsText", spec := "fnExactFlagsText", apart := false, narrowed := true }
def FnExactFlagsTextUptoSaid : Prop := fnExactFlagsTextUptoRow.holds Try.pinned (OpenSpec.upto fnExactFlagsTextSpec)

/-- 'laws.FnExactNameOK', WHERE WHAT IT READS IS OF BULK AT MOST 1048576: true; the input reads as it did. -/
def fnExactNameOKUptoRow : OpenClaim := { program := "ytmandhjfdfjmoaa", sum := "dcc104a8b4889eb1bbfc3b9b00e606c54b0ce3a2437852a3ad80f247352b76c8", func := "loop.example/g00356/laws.FnExactNameOK", spec := "fnExactNameOK", apart := false, narrowed := true }
def FnExactNameOKUptoSaid : Prop := fnExactNameOKUptoRow.holds Try.pinned (OpenSpec.upto fnExactNameOKSpec)

/-- 'laws.FnExactHashText', WHERE WHAT IT READS IS OF BULK AT MOST 1048576: true; the input reads as it did. -/
def fnExactHashTextUptoRow : OpenClaim := { program := "ytmandhjfdfjmoaa", sum := "dcc104a8b4889eb1bbfc3b9b00e606c54b0ce3a2437852a3ad80f247352b76c8", func := "loop.example/g00356/laws.FnExactHashText", spec := "fnExactHashText", apart := false, narrowed := true }
def FnExactHashTextUptoSaid : Prop := fnExactHashTextUptoRow.holds Try.pinned (OpenSpec.upto fnExactHashTextSpec)

/-- 'laws.FnExactNegOf', WHERE WHAT IT READS IS OF BULK AT MOST 1048576: true; the input reads as it did. -/
def fnExactNegOfUptoRow : OpenClaim := { program := "ytmandhjfdfjmoaa", sum := "dcc104a8b4889eb1bbfc3b9b00e606c54b0ce3a2437852a3ad80f247352b76c8", func := "loop.example/g00356/laws.FnExactNegOf", spec := "fnExactNegOf", apart := false, narrowed := true }
def FnExactNegOfUptoSaid : Prop := fnExactNegOfUptoRow.holds Try.pinned (OpenSpec.upto fnExactNegOfSpec)

/-- 'laws.FnExactShareOf', WHERE WHAT IT READS IS OF BULK AT MOST 1048576: true; the input reads as it did. -/
def fnExactShareOfUptoRow : OpenClaim := { program := "ytmandhjfdfjmoaa", sum := "dcc104a8b4889eb1bbfc3b9b00e606c54b0ce3a2437852a3ad80f247352b76c8", func := "loop.example/g00356/laws.FnExactShareOf", spec := "fnExactShareOf", apart := false, narrowed := true }
def FnExactShareOfUptoSaid : Prop := fnExactShareOfUptoRow.holds Try.pinned (OpenSpec.upto fnExactShareOfSpec)

/-- 'laws.FnExactClassOf', WHERE WHAT IT READS IS OF BULK AT MOST 1048576: true; the input reads as it did. -/
def fnExactClassOfUptoRow : OpenClaim := { program := "ytmandhjfdfjmoaa", sum := "dcc104a8b4889eb1bbfc3b9b00e606c54b0ce3a2437852a3ad80f247352b76c8", func := "loop.example/g00356/laws.FnExactClassOf", spec := "fnExactClassOf", unfollowed := true, recurses := true, apart := false, narrowed := true }
def FnExactClassOfUptoSaid : Prop := fnExactClassOfUptoRow.holds Try.pinned (OpenSpec.upto fnExactClassOfSpec)

/-- 'laws.FnExactMeterAdd', WHERE WHAT IT READS IS OF BULK AT MOST 1048576: true; the input reads as it did. -/
def fnExactMeterAddUptoRow : OpenClaim := { program := "ytmandhjfdfjmoaa", sum := "dcc104a8b4889eb1bbfc3b9b00e606c54b0ce3a2437852a3ad80f247352b76c8", func := "loop.example/g00356/laws.FnExactMeterAdd", spec := "fnExactMeterAdd", apart := false, narrowed := true }
def FnExactMeterAddUptoSaid : Prop := fnExactMeterAddUptoRow.holds Try.pinned (OpenSpec.upto fnExactMeterAddSpec)

end Rows
end Go.Proofs.Ytmandhjfdfjmoaa
