/-
  No cell of these rows narrows 'for every input' (looked for: loops, veiled, ifaces, maps, wideKeys, modest, calm, conditions, laid).
  DERIVED. THE GIVEN ROWS OF THIS SEAT. 12 by the template 'for every input the law returns true; each argument reads behind the call as it read before'; 0 by the template 'total and deterministic' (their statements: YthfhflgiblmooaaTotals.lean).
  GIVEN WITH THE SEED: the statements are not yours to turn. If you find one false, say at which input.
  Laid BY PROGRAM, IN A SANDBOX (cutbox-rows.mjs): the forced cells as the released guide's own fill.sh prints them over the translation 516af2cef3d220a9… (all of the seat's roots in one cut). By AI agents, Wed Nov 11 2026. No macro, syntax, notation, axiom, sorry.
-/
import Derived.Test.YthfhflgiblmooaaChecked
import GoSem.Claim
import GoSem.ClaimJoined
import GoSem.ClaimMapViews
import Derived.JoinedTies
import Derived.KernelRfl
namespace Go.Proofs.Ythfhflgiblmooaa
/- THE CELL 'sum', in the pinned program and in every row, IS THE sha256 OF THE DUMP (.gsa) THAT YthfhflgiblmooaaProg.lean LOADS. Nothing in Lean hashes anything: it is a label: what it is worth is what the hold of that sum in a sandbox is worth. -/
noncomputable def Try.pinned : Pinned := { name := "ythfhflgiblmooaa", sum := "516af2cef3d220a9c0912d9455fef8c8a6d3dcd1e9e405892aa6b7650ce4f818", checked := Try.checked }
namespace Rows
def none {H : Type} : Left H := { results := [], args := [] }

/-- 'laws.FnExactNumberBytes': WHATEVER THE INPUT: true; the input reads as it did. -/
def fnExactNumberBytesSpec : ChangeSpec := { name := "fnExactNumberBytes", fn := fun _ => fun
  | [d1, d2] => { results := [.lit (.bool true)], args := [d1, d2] }
  | _ => none }
def fnExactNumberBytesRow : OpenClaim := { program := "ythfhflgiblmooaa", sum := "516af2cef3d220a9c0912d9455fef8c8a6d3dcd1e9e405892aa6b7650ce4f818", func := "loop.example/g00356/laws.FnExactNumberBytes", spec := "fnExactNumberBytes", apart := false }
def FnExactNumberBytesSaid : Prop := fnExactNumberBytesRow.holds Try.pinned (OpenSpec.ofChange fnExactNumberBytesSpec)

/-- ITS FALSE NEIGHBOUR: 'it returns false'. Refute it at one input. -/
def fnExactNumberBytesWrong : ChangeSpec := { name := "fnExactNumberBytes", fn := fun _ => fun
  | [d1, d2] => { results := [.lit (.bool false)], args := [d1, d2] }
  | _ => none }
def FnExactNumberBytesWrongFalsely : Prop := fnExactNumberBytesRow.holds Try.pinned (OpenSpec.ofChange fnExactNumberBytesWrong)

/-- 'laws.FnExactFrameBytes': WHATEVER THE INPUT: true; the input reads as it did. -/
def fnExactFrameBytesSpec : ChangeSpec := { name := "fnExactFrameBytes", fn := fun _ => fun
  | [d] => { results := [.lit (.bool true)], args := [d] }
  | _ => none }
def fnExactFrameBytesRow : OpenClaim := { program := "ythfhflgiblmooaa", sum := "516af2cef3d220a9c0912d9455fef8c8a6d3dcd1e9e405892aa6b7650ce4f818", func := "loop.example/g00356/laws.FnExactFrameBytes", spec := "fnExactFrameBytes", apart := false }
def FnExactFrameBytesSaid : Prop := fnExactFrameBytesRow.holds Try.pinned (OpenSpec.ofChange fnExactFrameBytesSpec)

/-- ITS FALSE NEIGHBOUR: 'it returns false'. Refute it at one input. -/
def fnExactFrameBytesWrong : ChangeSpec := { name := "fnExactFrameBytes", fn := fun _ => fun
  | [d] => { results := [.lit (.bool false)], args := [d] }
  | _ => none }
def FnExactFrameBytesWrongFalsely : Prop := fnExactFrameBytesRow.holds Try.pinned (OpenSpec.ofChange fnExactFrameBytesWrong)

/-- 'laws.FnExactArpBytes': WHATEVER THE INPUT: true; the input reads as it did. -/
def fnExactArpBytesSpec : ChangeSpec := { name := "fnExactArpBytes", fn := fun _ => fun
  | [d] => { results := [.lit (.bool true)], args := [d] }
  | _ => none }
def fnExactArpBytesRow : OpenClaim := { program := "ythfhflgiblmooaa", sum := "516af2cef3d220a9c0912d9455fef8c8a6d3dcd1e9e405892aa6b7650ce4f818", func := "loop.example/g00356/laws.FnExactArpBytes", spec := "fnExactArpBytes", apart := false }
def FnExactArpBytesSaid : Prop := fnExactArpBytesRow.holds Try.pinned (OpenSpec.ofChange fnExactArpBytesSpec)

/-- ITS FALSE NEIGHBOUR: 'it returns false'. Refute it at one input. -/
def fnExactArpBytesWrong : ChangeSpec := { name := "fnExactArpBytes", fn := fun _ => fun
  | [d] => { results := [.lit (.bool false)], args := [d] }
  | _ => none }
def FnExactArpBytesWrongFalsely : Prop := fnExactArpBytesRow.holds Try.pinned (OpenSpec.ofChange fnExactArpBytesWrong)

/-- 'laws.FnExactDhcpBytes': WHATEVER THE INPUT: true; the input reads as it did. -/
def fnExactDhcpBytesSpec : ChangeSpec := { name := "fnExactDhcpBytes", fn := fun _ => fun
  | [d] => { results := [.lit (.bool true)], args := [d] }
  | _ => none }
def fnExactDhcpBytesRow : OpenClaim := { program := "ythfhflgiblmooaa", sum := "516af2cef3d220a9c0912d9455fef8c8a6d3dcd1e9e405892aa6b7650ce4f818", func := "loop.example/g00356/laws.FnExactDhcpBytes", spec := "fnExactDhcpBytes", apart := false }
def FnExactDhcpBytesSaid : Prop := fnExactDhcpBytesRow.holds Try.pinned (OpenSpec.ofChange fnExactDhcpBytesSpec)

/-- ITS FALSE NEIGHBOUR: 'it returns false'. Refute it at one input. -/
def fnExactDhcpBytesWrong : ChangeSpec := { name := "fnExactDhcpBytes", fn := fun _ => fun
  | [d] => { results := [.lit (.bool false)], args := [d] }
  | _ => none }
def FnExactDhcpBytesWrongFalsely : Prop := fnExactDhcpBytesRow.holds Try.pinned (OpenSpec.ofChange fnExactDhcpBytesWrong)

/-- 'laws.FnExactPacketBytes': WHATEVER THE INPUT: true; the input reads as it did. -/
def fnExactPacketBytesSpec : ChangeSpec := { name := "fnExactPacketBytes", fn := fun _ => fun
  | [d] => { results := [.lit (.bool true)], args := [d] }
  | _ => none }
def fnExactPacketBytesRow : OpenClaim := { program := "ythfhflgiblmooaa", sum := "516af2cef3d220a9c0912d9455fef8c8a6d3dcd1e9e405892aa6b7650ce4f818", func := "loop.example/g00356/laws.FnExactPacketBytes", spec := "fnExactPacketBytes", apart := false }
def FnExactPacketBytesSaid : Prop := fnExactPacketBytesRow.holds Try.pinned (OpenSpec.ofChange fnExactPacketBytesSpec)

/-- ITS FALSE NEIGHBOUR: 'it returns false'. Refute it at one input. -/
def fnExactPacketBytesWrong : ChangeSpec := { name := "fnExactPacketBytes", fn := fun _ => fun
  | [d] => { results := [.lit (.bool false)], args := [d] }
  | _ => none }
def FnExactPacketBytesWrongFalsely : Prop := fnExactPacketBytesRow.holds Try.pinned (OpenSpec.ofChange fnExactPacketBytesWrong)

/-- 'laws.FnExactDatagramBytes': WHATEVER THE INPUT: true; the input reads as it did. -/
def fnExactDatagramBytesSpec : ChangeSpec := { name := "fnExactDatagramBytes", fn := fun _ => fun
  | [d1, d2, d3] => { results := [.lit (.bool true)], args := [d1, d2, d3] }
  | _ => none }
def fnExactDatagramBytesRow : OpenClaim := { program := "ythfhflgiblmooaa", sum := "516af2cef3d220a9c0912d9455fef8c8a6d3dcd1e9e405892aa6b7650ce4f818", func := "loop.example/g00356/laws.FnExactDatagramBytes", spec := "fnExactDatagramBytes", apart := false }
def FnExactDatagramBytesSaid : Prop := fnExactDatagramBytesRow.holds Try.pinned (OpenSpec.ofChange fnExactDatagramBytesSpec)

/-- ITS FALSE NEIGHBOUR: 'it returns false'. Refute it at one input. -/
def fnExactDatagramBytesWrong : ChangeSpec := { name := "fnExactDatagramBytes", fn := fun _ => fun
  | [d1, d2, d3] => { results := [.lit (.bool false)], args := [d1, d2, d3] }
  | _ => none }
def FnExactDatagramBytesWrongFalsely : Prop := fnExactDatagramBytesRow.holds Try.pinned (OpenSpec.ofChange fnExactDatagramBytesWrong)

/-- 'laws.FnExactSegmentBytes': WHATEVER THE INPUT: true; the input reads as it did. -/
def fnExactSegmentBytesSpec : ChangeSpec := { name := "fnExactSegmentBytes", fn := fun _ => fun
  | [d1, d2, d3] => { results := [.lit (.bool true)], args := [d1, d2, d3] }
  | _ => none }
def fnExactSegmentBytesRow : OpenClaim := { program := "ythfhflgiblmooaa", sum := "516af2cef3d220a9c0912d9455fef8c8a6d3dcd1e9e405892aa6b7650ce4f818", func := "loop.example/g00356/laws.FnExactSegmentBytes", spec := "fnExactSegmentBytes", apart := false }
def FnExactSegmentBytesSaid : Prop := fnExactSegmentBytesRow.holds Try.pinned (OpenSpec.ofChange fnExactSegmentBytesSpec)

/-- ITS FALSE NEIGHBOUR: 'it returns false'. Refute it at one input. -/
def fnExactSegmentBytesWrong : ChangeSpec := { name := "fnExactSegmentBytes", fn := fun _ => fun
  | [d1, d2, d3] => { results := [.lit (.bool false)], args := [d1, d2, d3] }
  | _ => none }
def FnExactSegmentBytesWrongFalsely : Prop := fnExactSegmentBytesRow.holds Try.pinned (OpenSpec.ofChange fnExactSegmentBytesWrong)

/-- 'laws.FnCheck': WHATEVER THE INPUT: true; the input reads as it did. -/
def fnCheckSpec : ChangeSpec := { name := "fnCheck", fn := fun _ => fun
  | [d1, d2] => { results := [.lit (.bool true)], args := [d1, d2] }
  | _ => none }
def fnCheckRow : OpenClaim := { program := "ythfhflgiblmooaa", sum := "516af2cef3d220a9c0912d9455fef8c8a6d3dcd1e9e405892aa6b7650ce4f818", func := "loop.example/g00356/laws.FnCheck", spec := "fnCheck", apart := false }
def FnCheckSaid : Prop := fnCheckRow.holds Try.pinned (OpenSpec.ofChange fnCheckSpec)

/-- ITS FALSE NEIGHBOUR: 'it returns false'. Refute it at one input. -/
def fnCheckWrong : ChangeSpec := { name := "fnCheck", fn := fun _ => fun
  | [d1, d2] => { results := [.lit (.bool false)], args := [d1, d2] }
  | _ => none }
def FnCheckWrongFalsely : Prop := fnCheckRow.holds Try.pinned (OpenSpec.ofChange fnCheckWrong)

/-- 'laws.FnSegments': WHATEVER THE INPUT: true; the input reads as it did. -/
def fnSegmentsSpec : ChangeSpec := { name := "fnSegments", fn := fun _ => fun
  | [d1, d2] => { results := [.lit (.bool true)], args := [d1, d2] }
  | _ => none }
def fnSegmentsRow : OpenClaim := { program := "ythfhflgiblmooaa", sum := "516af2cef3d220a9c0912d9455fef8c8a6d3dcd1e9e405892aa6b7650ce4f818", func := "loop.example/g00356/laws.FnSegments", spec := "fnSegments", apart := false }
def FnSegmentsSaid : Prop := fnSegmentsRow.holds Try.pinned (OpenSpec.ofChange fnSegmentsSpec)

/-- ITS FALSE NEIGHBOUR: 'it returns false'. Refute it at one input. -/
def fnSegmentsWrong : ChangeSpec := { name := "fnSegments", fn := fun _ => fun
  | [d1, d2] => { results := [.lit (.bool false)], args := [d1, d2] }
  | _ => none }
def FnSegmentsWrongFalsely : Prop := fnSegmentsRow.holds Try.pinned (OpenSpec.ofChange fnSegmentsWrong)

/-- 'laws.FnExactReadDatagram': WHATEVER THE INPUT: true; the input reads as it did. -/
def fnExactReadDatagramSpec : ChangeSpec := { name := "fnExactReadDatagram", fn := fun _ => fun
  | [d1, d2, d3] => { results := [.lit (.bool true)], args := [d1, d2, d3] }
  | _ => none }
def fnExactReadDatagramRow : OpenClaim := { program := "ythfhflgiblmooaa", sum := "516af2cef3d220a9c0912d9455fef8c8a6d3dcd1e9e405892aa6b7650ce4f818", func := "loop.example/g00356/laws.FnExactReadDatagram", spec := "fnExactReadDatagram", apart := false }
def FnExactReadDatagramSaid : Prop := fnExactReadDatagramRow.holds Try.pinned (OpenSpec.ofChange fnExactReadDatagramSpec)

/-- ITS FALSE NEIGHBOUR: 'it returns false'. Refute it at one input. -/
def fnExactReadDatagramWrong : ChangeSpec := { name := "fnExactReadDatagram", fn := fun _ => fun
  | [d1, d2, d3] => { results := [.lit (.bool false)], args := [d1, d2, d3] }
  | _ => none }
def FnExactReadDatagramWrongFalsely : Prop := fnExactReadDatagramRow.holds Try.pinned (OpenSpec.ofChange fnExactReadDatagramWrong)

/-- 'laws.FnExactReadSegment': WHATEVER THE INPUT: true; the input reads as it did. -/
def fnExactReadSegmentSpec : ChangeSpec := { name := "fnExactReadSegment", fn := fun _ => fun
  | [d1, d2, d3] => { results := [.lit (.bool true)], args := [d1, d2, d3] }
  | _ => none }
def fnExactReadSegmentRow : OpenClaim := { program := "ythfhflgiblmooaa", sum := "516af2cef3d220a9c0912d9455fef8c8a6d3dcd1e9e405892aa6b7650ce4f818", func := "loop.example/g00356/laws.FnExactReadSegment", spec := "fnExactReadSegment", apart := false }
def FnExactReadSegmentSaid : Prop := fnExactReadSegmentRow.holds Try.pinned (OpenSpec.ofChange fnExactReadSegmentSpec)

/-- ITS FALSE NEIGHBOUR: 'it returns false'. Refute it at one input. -/
def fnExactReadSegmentWrong : ChangeSpec := { name := "fnExactReadSegment", fn := fun _ => fun
  | [d1, d2, d3] => { results := [.lit (.bool false)], args := [d1, d2, d3] }
  | _ => none }
def FnExactReadSegmentWrongFalsely : Prop := fnExactReadSegmentRow.holds Try.pinned (OpenSpec.ofChange fnExactReadSegmentWrong)

/-- 'laws.FnExactCheck16': WHATEVER THE INPUT: true; the input reads as it did. -/
def fnExactCheck16Spec : ChangeSpec := { name := "fnExactCheck16", fn := fun _ => fun
  | [d] => { results := [.lit (.bool true)], args := [d] }
  | _ => none }
def fnExactCheck16Row : OpenClaim := { program := "ythfhflgiblmooaa", sum := "516af2cef3d220a9c0912d9455fef8c8a6d3dcd1e9e405892aa6b7650ce4f818", func := "loop.example/g00356/laws.FnExactCheck16", spec := "fnExactCheck16", apart := false }
def FnExactCheck16Said : Prop := fnExactCheck16Row.holds Try.pinned (OpenSpec.ofChange fnExactCheck16Spec)

/-- ITS FALSE NEIGHBOUR: 'it returns false'. Refute it at one input. -/
def fnExactCheck16Wrong : ChangeSpec := { name := "fnExactCheck16", fn := fun _ => fun
  | [d] => { results := [.lit (.bool false)], args := [d] }
  | _ => none }
def FnExactCheck16WrongFalsely : Prop := fnExactCheck16Row.holds Try.pinned (OpenSpec.ofChange fnExactCheck16Wrong)

/- THE SECOND FORM. 'bulk': how many values and letters a reading holds, each counted each time it is reached (what is shared counts as often as it is met; a slice's spare places count too). A statement '..UptoSaid' is the law's where the arguments, and the package variables that the reading takes, are together of bulk at most 1048576: NARROWER than '..Said'. Prove '..Said' where nothing that the law and all that it calls make is longer than what came in: it says more and counts as full. Else prove '..UptoSaid'. A law counts once. -/
mutual
def uptoBulk {H : Type} : DataW H → Nat
  | .lit (.string bytes) => bytes.length + 1
  | .lit _ => 1
  | .nil => 1
  | .ptr d => uptoBulk d + 1
  | .slice elems spare => uptoBulkAll elems + uptoBulkAll spare + 1
  | .agg parts => uptoBulkAll parts + 1
  | .iface _ d => uptoBulk d + 1
  | .map entries => uptoBulkEntries entries + 1
  | .held _ => 1
def uptoBulkAll {H : Type} : List (DataW H) → Nat
  | [] => 0
  | d :: r => uptoBulk d + uptoBulkAll r
def uptoBulkEntries {H : Type} : List (Lit × DataW H) → Nat
  | [] => 0
  | x :: r => uptoBulkEntry x + uptoBulkEntries r
def uptoBulkEntry {H : Type} : Lit × DataW H → Nat
  | (.string bytes, d) => bytes.length + uptoBulk d + 1
  | (_, d) => uptoBulk d + 1
 end
def uptoSmall : (H : Type) → List (DataW H) → Bool := fun _ ds => decide (uptoBulkAll ds ≤ 1048576)
def OpenSpec.upto (s : _root_.Go.ChangeSpec) : _root_.Go.OpenSpec := { _root_.Go.OpenSpec.ofChange s with cond := some uptoSmall }

/-- 'laws.FnExactNumberBytes', WHERE WHAT IT READS IS OF BULK AT MOST 1048576: true; the input reads as it did. -/
def fnExactNumberBytesUptoRow : OpenClaim := { program := "ythfhflgiblmooaa", sum := "516af2cef3d220a9c0912d9455fef8c8a6d3dcd1e9e405892aa6b7650ce4f818", func := "loop.example/g00356/laws.FnExactNumberBytes", spec := "fnExactNumberBytes", apart := false, narrowed := true }
def FnExactNumberBytesUptoSaid : Prop := fnExactNumberBytesUptoRow.holds Try.pinned (OpenSpec.upto fnExactNumberBytesSpec)

/-- 'laws.FnExactFrameBytes', WHERE WHAT IT READS IS OF BULK AT MOST 1048576: true; the input reads as it did. -/
def fnExactFrameBytesUptoRow : OpenClaim := { program := "ythfhflgiblmooaa", sum := "516af2cef3d220a9c0912d9455fef8c8a6d3dcd1e9e405892aa6b7650ce4f818", func := "loop.example/g00356/laws.FnExactFrameBytes", spec := "fnExactFrameBytes", apart := false, narrowed := true }
def FnExactFrameBytesUptoSaid : Prop := fnExactFrameBytesUptoRow.holds Try.pinned (OpenSpec.upto fnExactFrameBytesSpec)

/-- 'laws.FnExactArpBytes', WHERE WHAT IT READS IS OF BULK AT MOST 1048576: true; the input reads as it did. -/
def fnExactArpBytesUptoRow : OpenClaim := { program := "ythfhflgiblmooaa", sum := "516af2cef3d220a9c0912d9455fef8c8a6d3dcd1e9e405892aa6b7650ce4f818", func := "loop.example/g00356/laws.FnExactArpBytes", spec := "fnExactArpBytes", apart := false, narrowed := true }
def FnExactArpBytesUptoSaid : Prop := fnExactArpBytesUptoRow.holds Try.pinned (OpenSpec.upto fnExactArpBytesSpec)

/-- 'laws.FnExactDhcpBytes', WHERE WHAT IT READS IS OF BULK AT MOST 1048576: true; the input reads as it did. -/
def fnExactDhcpBytesUptoRow : OpenClaim := { program := "ythfhflgiblmooaa", sum := "516af2cef3d220a9c0912d9455fef8c8a6d3dcd1e9e405892aa6b7650ce4f818", func := "loop.example/g00356/laws.FnExactDhcpBytes", spec := "fnExactDhcpBytes", apart := false, narrowed := true }
def FnExactDhcpBytesUptoSaid : Prop := fnExactDhcpBytesUptoRow.holds Try.pinned (OpenSpec.upto fnExactDhcpBytesSpec)

/-- 'laws.FnExactPacketBytes', WHERE WHAT IT READS IS OF BULK AT MOST 1048576: true; the input reads as it did. -/
def fnExactPacketBytesUptoRow : OpenClaim := { program := "ythfhflgiblmooaa", sum := "516af2cef3d220a9c0912d9455fef8c8a6d3dcd1e9e405892aa6b7650ce4f818", func := "loop.example/g00356/laws.FnExactPacketBytes", spec := "fnExactPacketBytes", apart := false, narrowed := true }
def FnExactPacketBytesUptoSaid : Prop := fnExactPacketBytesUptoRow.holds Try.pinned (OpenSpec.upto fnExactPacketBytesSpec)

/-- 'laws.FnExactDatagramBytes', WHERE WHAT IT READS IS OF BULK AT MOST 1048576: true; the input reads as it did. -/
def fnExactDatagramBytesUptoRow : OpenClaim := { program := "ythfhflgiblmooaa", sum := "516af2cef3d220a9c0912d9455fef8c8a6d3dcd1e9e405892aa6b7650ce4f818", func := "loop.example/g00356/laws.FnExactDatagramBytes", spec := "fnExactDatagramBytes", apart := false, narrowed := true }
def FnExactDatagramBytesUptoSaid : Prop := fnExactDatagramBytesUptoRow.holds Try.pinned (OpenSpec.upto fnExactDatagramBytesSpec)

/-- 'laws.FnExactSegmentBytes', WHERE WHAT IT READS IS OF BULK AT MOST 1048576: true; the input reads as it did. -/
def fnExactSegmentBytesUptoRow : OpenClaim := { program := "ythfhflgiblmooaa", sum := "516af2cef3d220a9c0912d9455fef8c8a6d3dcd1e9e405892aa6b7650ce4f818", func := "loop.example/g00356/laws.FnExactSegmentBytes", spec := "fnExactSegmentBytes", apart := false, narrowed := true }
def FnExactSegmentBytesUptoSaid : Prop := fnExactSegmentBytesUptoRow.holds Try.pinned (OpenSpec.upto fnExactSegmentBytesSpec)

/-- 'laws.FnCheck', WHERE WHAT IT READS IS OF BULK AT MOST 1048576: true; the input reads as it did. -/
def fnCheckUptoRow : OpenClaim := { program := "ythfhflgiblmooaa", sum := "516af2cef3d220a9c0912d9455fef8c8a6d3dcd1e9e405892aa6b7650ce4f818", func := "loop.example/g00356/laws.FnCheck", spec := "fnCheck", apart := false, narrowed := true }
def FnCheckUptoSaid : Prop := fnCheckUptoRow.holds Try.pinned (OpenSpec.upto fnCheckSpec)

/-- 'laws.FnSegments', WHERE WHAT IT READS IS OF BULK AT MOST 1048576: true; the input reads as it did. -/
def fnSegmentsUptoRow : OpenClaim := { program := "ythfhflgiblmooaa", sum := "516af2cef3d220a9c0912d9455fef8c8a6d3dcd1e9e405892aa6b7650ce4f818", func := "loop.example/g00356/laws.FnSegments", spec := "fnSegments", apart := false, narrowed := true }
def FnSegmentsUptoSaid : Prop := fnSegmentsUptoRow.holds Try.pinned (OpenSpec.upto fnSegmentsSpec)

/-- 'laws.FnExactReadDatagram', WHERE WHAT IT READS IS OF BULK AT MOST 1048576: true; the input reads as it did. -/
def fnExactReadDatagramUptoRow : OpenClaim := { program := "ythfhflgiblmooaa", sum := "516af2cef3d220a9c0912d9455fef8c8a6d3dcd1e9e405892aa6b7650ce4f818", func := "loop.example/g00356/laws.FnExactReadDatagram", spec := "fnExactReadDatagram", apart := false, narrowed := true }
def FnExactReadDatagramUptoSaid : Prop := fnExactReadDatagramUptoRow.holds Try.pinned (OpenSpec.upto fnExactReadDatagramSpec)

/-- 'laws.FnExactReadSegment', WHERE WHAT IT READS IS OF BULK AT MOST 1048576: true; the input reads as it did. -/
def fnExactReadSegmentUptoRow : OpenClaim := { program := "ythfhflgiblmooaa", sum := "516af2cef3d220a9c0912d9455fef8c8a6d3dcd1e9e405892aa6b7650ce4f818", func := "loop.example/g00356/laws.FnExactReadSegment", spec := "fnExactReadSegment", apart := false, narrowed := true }
def FnExactReadSegmentUptoSaid : Prop := fnExactReadSegmentUptoRow.holds Try.pinned (OpenSpec.upto fnExactReadSegmentSpec)

/-- 'laws.FnExactCheck16', WHERE WHAT IT READS IS OF BULK AT MOST 1048576: true; the input reads as it did. -/
def fnExactCheck16UptoRow : OpenClaim := { program := "ythfhflgiblmooaa", sum := "516af2cef3d220a9c0912d9455fef8c8a6d3dcd1e9e405892aa6b7650ce4f818", func := "loop.example/g00356/laws.FnExactCheck16", spec := "fnExactCheck16", apart := false, narrowed := true }
def FnExactCheck16UptoSaid : Prop := fnExactCheck16UptoRow.holds Try.pinned (OpenSpec.upto fnExactCheck16Spec)

end Rows
end Go.Proofs.Ythfhflgiblmooaa
