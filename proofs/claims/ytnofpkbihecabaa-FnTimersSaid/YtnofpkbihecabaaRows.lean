/-
  No cell of these rows narrows 'for every input' (looked for: loops, veiled, ifaces, maps, wideKeys, modest, calm, conditions, laid).
  DERIVED. THE GIVEN ROWS OF THIS SEAT. 4 by the template 'for every input the law returns true; each argument reads behind the call as it read before'; 0 by the template 'total and deterministic' (their statements: YtnofpkbihecabaaTotals.lean).
  GIVEN WITH THE SEED: the statements are not yours to turn. If you find one false, say at which input.
  Laid BY PROGRAM, IN A SANDBOX (cutbox-rows.mjs): the forced cells as the released guide's own fill.sh prints them over the translation d95055e460366fec… (all of the seat's roots in one cut). By AI agents, Wed Nov 11 2026. No macro, syntax, notation, axiom, sorry.
-/
import Derived.Test.YtnofpkbihecabaaChecked
import GoSem.Claim
import GoSem.ClaimJoined
import GoSem.ClaimMapViews
import Derived.JoinedTies
import Derived.KernelRfl
namespace Go.Proofs.Ytnofpkbihecabaa
/- THE CELL 'sum', in the pinned program and in every row, IS THE sha256 OF THE DUMP (.gsa) THAT YtnofpkbihecabaaProg.lean LOADS. Nothing in Lean hashes anything: it is a label: what it is worth is what the hold of that sum in a sandbox is worth. -/
noncomputable def Try.pinned : Pinned := { name := "ytnofpkbihecabaa", sum := "d95055e460366fece029da51edb14f1ebb7368d208d02e9f82869c2664e0816d", checked := Try.checked }
namespace Rows
def none {H : Type} : Left H := { results := [], args := [] }

/-- 'laws.FnTimers': WHATEVER THE INPUT: true; the input reads as it did. -/
def fnTimersSpec : ChangeSpec := { name := "fnTimers", fn := fun _ => fun
  | [d1, d2] => { results := [.lit (.bool true)], args := [d1, d2] }
  | _ => none }
def fnTimersRow : OpenClaim := { program := "ytnofpkbihecabaa", sum := "d95055e460366fece029da51edb14f1ebb7368d208d02e9f82869c2664e0816d", func := "loop.example/g00356/laws.FnTimers", spec := "fnTimers", unfollowed := true, recurses := true, apart := false }
def FnTimersSaid : Prop := fnTimersRow.holds Try.pinned (OpenSpec.ofChange fnTimersSpec)

/-- ITS FALSE NEIGHBOUR: 'it returns false'. Refute it at one input. -/
def fnTimersWrong : ChangeSpec := { name := "fnTimers", fn := fun _ => fun
  | [d1, d2] => { results := [.lit (.bool false)], args := [d1, d2] }
  | _ => none }
def FnTimersWrongFalsely : Prop := fnTimersRow.holds Try.pinned (OpenSpec.ofChange fnTimersWrong)

/-- 'laws.FnExactTimerDrop': WHATEVER THE INPUT: true; the input reads as it did. -/
def fnExactTimerDropSpec : ChangeSpec := { name := "fnExactTimerDrop", fn := fun _ => fun
  | [d1, d2] => { results := [.lit (.bool true)], args := [d1, d2] }
  | _ => none }
def fnExactTimerDropRow : OpenClaim := { program := "ytnofpkbihecabaa", sum := "d95055e460366fece029da51edb14f1ebb7368d208d02e9f82869c2664e0816d", func := "loop.example/g00356/laws.FnExactTimerDrop", spec := "fnExactTimerDrop", unfollowed := true, recurses := true, apart := false }
def FnExactTimerDropSaid : Prop := fnExactTimerDropRow.holds Try.pinned (OpenSpec.ofChange fnExactTimerDropSpec)

/-- ITS FALSE NEIGHBOUR: 'it returns false'. Refute it at one input. -/
def fnExactTimerDropWrong : ChangeSpec := { name := "fnExactTimerDrop", fn := fun _ => fun
  | [d1, d2] => { results := [.lit (.bool false)], args := [d1, d2] }
  | _ => none }
def FnExactTimerDropWrongFalsely : Prop := fnExactTimerDropRow.holds Try.pinned (OpenSpec.ofChange fnExactTimerDropWrong)

/-- 'laws.FnExactTimersDue': WHATEVER THE INPUT: true; the input reads as it did. -/
def fnExactTimersDueSpec : ChangeSpec := { name := "fnExactTimersDue", fn := fun _ => fun
  | [d1, d2] => { results := [.lit (.bool true)], args := [d1, d2] }
  | _ => none }
def fnExactTimersDueRow : OpenClaim := { program := "ytnofpkbihecabaa", sum := "d95055e460366fece029da51edb14f1ebb7368d208d02e9f82869c2664e0816d", func := "loop.example/g00356/laws.FnExactTimersDue", spec := "fnExactTimersDue", unfollowed := true, recurses := true, apart := false }
def FnExactTimersDueSaid : Prop := fnExactTimersDueRow.holds Try.pinned (OpenSpec.ofChange fnExactTimersDueSpec)

/-- ITS FALSE NEIGHBOUR: 'it returns false'. Refute it at one input. -/
def fnExactTimersDueWrong : ChangeSpec := { name := "fnExactTimersDue", fn := fun _ => fun
  | [d1, d2] => { results := [.lit (.bool false)], args := [d1, d2] }
  | _ => none }
def FnExactTimersDueWrongFalsely : Prop := fnExactTimersDueRow.holds Try.pinned (OpenSpec.ofChange fnExactTimersDueWrong)

/-- 'laws.FnExactTimerPut': WHATEVER THE INPUT: true; the input reads as it did. -/
def fnExactTimerPutSpec : ChangeSpec := { name := "fnExactTimerPut", fn := fun _ => fun
  | [d1, d2] => { results := [.lit (.bool true)], args := [d1, d2] }
  | _ => none }
def fnExactTimerPutRow : OpenClaim := { program := "ytnofpkbihecabaa", sum := "d95055e460366fece029da51edb14f1ebb7368d208d02e9f82869c2664e0816d", func := "loop.example/g00356/laws.FnExactTimerPut", spec := "fnExactTimerPut", unfollowed := true, recurses := true, apart := false }
def FnExactTimerPutSaid : Prop := fnExactTimerPutRow.holds Try.pinned (OpenSpec.ofChange fnExactTimerPutSpec)

/-- ITS FALSE NEIGHBOUR: 'it returns false'. Refute it at one input. -/
def fnExactTimerPutWrong : ChangeSpec := { name := "fnExactTimerPut", fn := fun _ => fun
  | [d1, d2] => { results := [.lit (.bool false)], args := [d1, d2] }
  | _ => none }
def FnExactTimerPutWrongFalsely : Prop := fnExactTimerPutRow.holds Try.pinned (OpenSpec.ofChange fnExactTimerPutWrong)

/- THE SECOND FORM. 'bulk': how many values and letters a reading holds, each counted each time it is reached (what is shared counts as often as it is met; a slice's spare places count too). A statement '..UptoSaid' is the law's where the arguments, and the package variables that the reading takes, are together of bulk at most 1048576: NARROWER than '..Said'. Prove '..Said' where nothing that the law and all that it calls make is longer than what came in: it says more and counts as full. Else prove '..UptoSaid'. A law counts once. -/
mutual
def uptoBulk {H : Type} : DataW H → Nat
  | .lit (.string bytes) => bytes.length + 1
  | .lit _ => 1
  | .nil => 1
  | .ptr d => uptoBulk d + 1
  | .slice elems spare => uptoBulkAll elems + uptoBulkAll spare + 1
  | .agg parts => uptoBulkAll parts + 1
  | .iface _ d => uptoBulk d + 1
  | .map entries => uptoBulkEntries entries + 1
  | .held _ => 1
def uptoBulkAll {H : Type} : List (DataW H) → Nat
  | [] => 0
  | d :: r => uptoBulk d + uptoBulkAll r
def uptoBulkEntries {H : Type} : List (Lit × DataW H) → Nat
  | [] => 0
  | x :: r => uptoBulkEntry x + uptoBulkEntries r
def uptoBulkEntry {H : Type} : Lit × DataW H → Nat
  | (.string bytes, d) => bytes.length + uptoBulk d + 1
  | (_, d) => uptoBulk d + 1
 end
def uptoSmall : (H : Type) → List (DataW H) → Bool := fun _ ds => decide (uptoBulkAll ds ≤ 1048576)
def OpenSpec.upto (s : _root_.Go.ChangeSpec) : _root_.Go.OpenSpec := { _root_.Go.OpenSpec.ofChange s with cond := some uptoSmall }

/-- 'laws.FnTimers', WHERE WHAT IT READS IS OF BULK AT MOST 1048576: true; the input reads as it did. -/
def fnTimersUptoRow : OpenClaim := { program := "ytnofpkbihecabaa", sum := "d95055e460366fece029da51edb14f1ebb7368d208d02e9f82869c2664e0816d", func := "loop.example/g00356/laws.FnTimers", spec := "fnTimers", unfollowed := true, recurses := true, apart := false, narrowed := true }
def FnTimersUptoSaid : Prop := fnTimersUptoRow.holds Try.pinned (OpenSpec.upto fnTimersSpec)

/-- 'laws.FnExactTimerDrop', WHERE WHAT IT READS IS OF BULK AT MOST 1048576: true; the input reads as it did. -/
def fnExactTimerDropUptoRow : OpenClaim := { program := "ytnofpkbihecabaa", sum := "d95055e460366fece029da51edb14f1ebb7368d208d02e9f82869c2664e0816d", func := "loop.example/g00356/laws.FnExactTimerDrop", spec := "fnExactTimerDrop", unfollowed := true, recurses := true, apart := false, narrowed := true }
def FnExactTimerDropUptoSaid : Prop := fnExactTimerDropUptoRow.holds Try.pinned (OpenSpec.upto fnExactTimerDropSpec)

/-- 'laws.FnExactTimersDue', WHERE WHAT IT READS IS OF BULK AT MOST 1048576: true; the input reads as it did. -/
def fnExactTimersDueUptoRow : OpenClaim := { program := "ytnofpkbihecabaa", sum := "d95055e460366fece029da51edb14f1ebb7368d208d02e9f82869c2664e0816d", func := "loop.example/g00356/laws.FnExactTimersDue", spec := "fnExactTimersDue", unfollowed := true, recurses := true, apart := false, narrowed := true }
def FnExactTimersDueUptoSaid : Prop := fnExactTimersDueUptoRow.holds Try.pinned (OpenSpec.upto fnExactTimersDueSpec)

/-- 'laws.FnExactTimerPut', WHERE WHAT IT READS IS OF BULK AT MOST 1048576: true; the input reads as it did. -/
def fnExactTimerPutUptoRow : OpenClaim := { program := "ytnofpkbihecabaa", sum := "d95055e460366fece029da51edb14f1ebb7368d208d02e9f82869c2664e0816d", func := "loop.example/g00356/laws.FnExactTimerPut", spec := "fnExactTimerPut", unfollowed := true, recurses := true, apart := false, narrowed := true }
def FnExactTimerPutUptoSaid : Prop := fnExactTimerPutUptoRow.holds Try.pinned (OpenSpec.upto fnExactTimerPutSpec)

end Rows
end Go.Proofs.Ytnofpkbihecabaa
