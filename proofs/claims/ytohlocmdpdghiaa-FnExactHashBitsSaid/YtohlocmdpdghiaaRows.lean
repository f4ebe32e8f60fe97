/-
  No cell of these rows narrows 'for every input' (looked for: loops, veiled, ifaces, maps, wideKeys, modest, calm, conditions, laid).
  DERIVED. THE GIVEN ROWS OF THIS SEAT. 8 by the template 'for every input the law returns true; each argument reads behind the call as it read before'; 0 by the template 'total and deterministic' (their statements: YtohlocmdpdghiaaTotals.lean).
  GIVEN WITH THE SEED: the statements are not yours to turn. If you find one false, say at which input.
  Laid BY PROGRAM, IN A SANDBOX (cutbox-rows.mjs): the forced cells as the released guide's own fill.sh prints them over the translation 030118bd367d20fc… (all of the seat's roots in one cut). By AI agents, Wed Nov 11 2026. No macro, syntax, notation, axiom, sorry.
-/
import Derived.Test.YtohlocmdpdghiaaChecked
import GoSem.Claim
import GoSem.ClaimJoined
import GoSem.ClaimMapViews
import Derived.JoinedTies
import Derived.KernelRfl
namespace Go.Proofs.Ytohlocmdpdghiaa
/- THE CELL 'sum', in the pinned program and in every row, IS THE sha256 OF THE DUMP (.gsa) THAT YtohlocmdpdghiaaProg.lean LOADS. Nothing in Lean hashes anything: it is a label: what it is worth is what the hold of that sum in a sandbox is worth. -/
noncomputable def Try.pinned : Pinned := { name := "ytohlocmdpdghiaa", sum := "030118bd367d20fc3a90a5dbb7d1d1b234e26c9351bf21a1588f2fa444f11ec7", checked := Try.checked }
namespace Rows
def none {H : Type} : Left H := { results := [], args := [] }

/-- 'laws.FnExactCheck32': WHATEVER THE INPUT: true; the input reads as it did. -/
def fnExactCheck32Spec : ChangeSpec := { name := "fnExactCheck32", fn := fun _ => fun
  | [d] => { results := [.lit (.bool true)], args := [d] }
  | _ => none }
def fnExactCheck32Row : OpenClaim := { program := "ytohlocmdpdghiaa", sum := "030118bd367d20fc3a90a5dbb7d1d1b234e26c9351bf21a1588f2fa444f11ec7", func := "loop.example/g00356/laws.FnExactCheck32", spec := "fnExactCheck32", apart := false }
def FnExactCheck32Said : Prop := fnExactCheck32Row.holds Try.pinned (OpenSpec.ofChange fnExactCheck32Spec)

/-- ITS FALSE NEIGHBOUR: 'it returns false'. Refute it at one input. -/
def fnExactCheck32Wrong : ChangeSpec := { name := "fnExactCheck32", fn := fun _ => fun
  | [d] => { results := [.lit (.bool false)], args := [d] }
  | _ => none }
def FnExactCheck32WrongFalsely : Prop := fnExactCheck32Row.holds Try.pinned (OpenSpec.ofChange fnExactCheck32Wrong)

/-- 'laws.FnExactNumberOf': WHATEVER THE INPUT: true; the input reads as it did. -/
def fnExactNumberOfSpec : ChangeSpec := { name := "fnExactNumberOf", fn := fun _ => fun
  | [d] => { results := [.lit (.bool true)], args := [d] }
  | _ => none }
def fnExactNumberOfRow : OpenClaim := { program := "ytohlocmdpdghiaa", sum := "030118bd367d20fc3a90a5dbb7d1d1b234e26c9351bf21a1588f2fa444f11ec7", func := "loop.example/g00356/laws.FnExactNumberOf", spec := "fnExactNumberOf", apart := false }
def FnExactNumberOfSaid : Prop := fnExactNumberOfRow.holds Try.pinned (OpenSpec.ofChange fnExactNumberOfSpec)

/-- ITS FALSE NEIGHBOUR: 'it returns false'. Refute it at one input. -/
def fnExactNumberOfWrong : ChangeSpec := { name := "fnExactNumberOf", fn := fun _ => fun
  | [d] => { results := [.lit (.bool false)], args := [d] }
  | _ => none }
def FnExactNumberOfWrongFalsely : Prop := fnExactNumberOfRow.holds Try.pinned (OpenSpec.ofChange fnExactNumberOfWrong)

/-- 'laws.FnExactReadHash': WHATEVER THE INPUT: true; the input reads as it did. -/
def fnExactReadHashSpec : ChangeSpec := { name := "fnExactReadHash", fn := fun _ => fun
  | [d] => { results := [.lit (.bool true)], args := [d] }
  | _ => none }
def fnExactReadHashRow : OpenClaim := { program := "ytohlocmdpdghiaa", sum := "030118bd367d20fc3a90a5dbb7d1d1b234e26c9351bf21a1588f2fa444f11ec7", func := "loop.example/g00356/laws.FnExactReadHash", spec := "fnExactReadHash", inPlace := ["internal/bytealg.IndexByteString"], apart := false }
def FnExactReadHashSaid : Prop := fnExactReadHashRow.holds Try.pinned (OpenSpec.ofChange fnExactReadHashSpec)

/-- ITS FALSE NEIGHBOUR: 'it returns false'. Refute it at one input. -/
def fnExactReadHashWrong : ChangeSpec := { name := "fnExactReadHash", fn := fun _ => fun
  | [d] => { results := [.lit (.bool false)], args := [d] }
  | _ => none }
def FnExactReadHashWrongFalsely : Prop := fnExactReadHashRow.holds Try.pinned (OpenSpec.ofChange fnExactReadHashWrong)

/-- 'laws.FnExactHashBits': WHATEVER THE INPUT: true; the input reads as it did. -/
def fnExactHashBitsSpec : ChangeSpec := { name := "fnExactHashBits", fn := fun _ => fun
  | [d] => { results := [.lit (.bool true)], args := [d] }
  | _ => none }
def fnExactHashBitsRow : OpenClaim := { program := "ytohlocmdpdghiaa", sum := "030118bd367d20fc3a90a5dbb7d1d1b234e26c9351bf21a1588f2fa444f11ec7", func := "loop.example/g00356/laws.FnExactHashBits", spec := "fnExactHashBits", inPlace := ["internal/abi.NoEscape"], apart := false }
def FnExactHashBitsSaid : Prop := fnExactHashBitsRow.holds Try.pinned (OpenSpec.ofChange fnExactHashBitsSpec)

/-- ITS FALSE NEIGHBOUR: 'it returns false'. Refute it at one input. -/
def fnExactHashBitsWrong : ChangeSpec := { name := "fnExactHashBits", fn := fun _ => fun
  | [d] => { results := [.lit (.bool false)], args := [d] }
  | _ => none }
def FnExactHashBitsWrongFalsely : Prop := fnExactHashBitsRow.holds Try.pinned (OpenSpec.ofChange fnExactHashBitsWrong)

/-- 'laws.FnExactReadFrame': WHATEVER THE INPUT: true; the input reads as it did. -/
def fnExactReadFrameSpec : ChangeSpec := { name := "fnExactReadFrame", fn := fun _ => fun
  | [d] => { results := [.lit (.bool true)], args := [d] }
  | _ => none }
def fnExactReadFrameRow : OpenClaim := { program := "ytohlocmdpdghiaa", sum := "030118bd367d20fc3a90a5dbb7d1d1b234e26c9351bf21a1588f2fa444f11ec7", func := "loop.example/g00356/laws.FnExactReadFrame", spec := "fnExactReadFrame", apart := false }
def FnExactReadFrameSaid : Prop := fnExactReadFrameRow.holds Try.pinned (OpenSpec.ofChange fnExactReadFrameSpec)

/-- ITS FALSE NEIGHBOUR: 'it returns false'. Refute it at one input. -/
def fnExactReadFrameWrong : ChangeSpec := { name := "fnExactReadFrame", fn := fun _ => fun
  | [d] => { results := [.lit (.bool false)], args := [d] }
  | _ => none }
def FnExactReadFrameWrongFalsely : Prop := fnExactReadFrameRow.holds Try.pinned (OpenSpec.ofChange fnExactReadFrameWrong)

/-- 'laws.FnExactReadArp': WHATEVER THE INPUT: true; the input reads as it did. -/
def fnExactReadArpSpec : ChangeSpec := { name := "fnExactReadArp", fn := fun _ => fun
  | [d] => { results := [.lit (.bool true)], args := [d] }
  | _ => none }
def fnExactReadArpRow : OpenClaim := { program := "ytohlocmdpdghiaa", sum := "030118bd367d20fc3a90a5dbb7d1d1b234e26c9351bf21a1588f2fa444f11ec7", func := "loop.example/g00356/laws.FnExactReadArp", spec := "fnExactReadArp", apart := false }
def FnExactReadArpSaid : Prop := fnExactReadArpRow.holds Try.pinned (OpenSpec.ofChange fnExactReadArpSpec)

/-- ITS FALSE NEIGHBOUR: 'it returns false'. Refute it at one input. -/
def fnExactReadArpWrong : ChangeSpec := { name := "fnExactReadArp", fn := fun _ => fun
  | [d] => { results := [.lit (.bool false)], args := [d] }
  | _ => none }
def FnExactReadArpWrongFalsely : Prop := fnExactReadArpRow.holds Try.pinned (OpenSpec.ofChange fnExactReadArpWrong)

/-- 'laws.FnExactReadPacket': WHATEVER THE INPUT: true; the input reads as it did. -/
def fnExactReadPacketSpec : ChangeSpec := { name := "fnExactReadPacket", fn := fun _ => fun
  | [d] => { results := [.lit (.bool true)], args := [d] }
  | _ => none }
def fnExactReadPacketRow : OpenClaim := { program := "ytohlocmdpdghiaa", sum := "030118bd367d20fc3a90a5dbb7d1d1b234e26c9351bf21a1588f2fa444f11ec7", func := "loop.example/g00356/laws.FnExactReadPacket", spec := "fnExactReadPacket", apart := false }
def FnExactReadPacketSaid : Prop := fnExactReadPacketRow.holds Try.pinned (OpenSpec.ofChange fnExactReadPacketSpec)

/-- ITS FALSE NEIGHBOUR: 'it returns false'. Refute it at one input. -/
def fnExactReadPacketWrong : ChangeSpec := { name := "fnExactReadPacket", fn := fun _ => fun
  | [d] => { results := [.lit (.bool false)], args := [d] }
  | _ => none }
def FnExactReadPacketWrongFalsely : Prop := fnExactReadPacketRow.holds Try.pinned (OpenSpec.ofChange fnExactReadPacketWrong)

/-- 'laws.FnExactReadDhcp': WHATEVER THE INPUT: true; the input reads as it did. -/
def fnExactReadDhcpSpec : ChangeSpec := { name := "fnExactReadDhcp", fn := fun _ => fun
  | [d] => { results := [.lit (.bool true)], args := [d] }
  | _ => none }
def fnExactReadDhcpRow : OpenClaim := { program := "ytohlocmdpdghiaa", sum := "030118bd367d20fc3a90a5dbb7d1d1b234e26c9351bf21a1588f2fa444f11ec7", func := "loop.example/g00356/laws.FnExactReadDhcp", spec := "fnExactReadDhcp", apart := false }
def FnExactReadDhcpSaid : Prop := fnExactReadDhcpRow.holds Try.pinned (OpenSpec.ofChange fnExactReadDhcpSpec)

/-- ITS FALSE NEIGHBOUR: 'it returns false'. Refute it at one input. -/
def fnExactReadDhcpWrong : ChangeSpec := { name := "fnExactReadDhcp", fn := fun _ => fun
  | [d] => { results := [.lit (.bool false)], args := [d] }
  | _ => none }
def FnExactReadDhcpWrongFalsely : Prop := fnExactReadDhcpRow.holds Try.pinned (OpenSpec.ofChange fnExactReadDhcpWrong)

/- THE SECOND FORM. 'bulk': how many values and letters a reading holds, each counted each time it is reached (what is shared counts as often as it is met; a slice's spare places count too). A statement '..UptoSaid' is the law's where the arguments, and the package variables that the reading takes, are together of bulk at most 1048576: NARROWER than '..Said'. Prove '..Said' where nothing that the law and all that it calls make is longer than what came in: it says more and counts as full. Else prove '..UptoSaid'. A law counts once. -/
mutual
def uptoBulk {H : Type} : DataW H → Nat
  | .lit (.string bytes) => bytes.length + 1
  | .lit _ => 1
  | .nil => 1
  | .ptr d => uptoBulk d + 1
  | .slice elems spare => uptoBulkAll elems + uptoBulkAll spare + 1
  | .agg parts => uptoBulkAll parts + 1
  | .iface _ d => uptoBulk d + 1
  | .map entries => uptoBulkEntries entries + 1
  | .held _ => 1
def uptoBulkAll {H : Type} : List (DataW H) → Nat
  | [] => 0
  | d :: r => uptoBulk d + uptoBulkAll r
def uptoBulkEntries {H : Type} : List (Lit × DataW H) → Nat
  | [] => 0
  | x :: r => uptoBulkEntry x + uptoBulkEntries r
def uptoBulkEntry {H : Type} : Lit × DataW H → Nat
  | (.string bytes, d) => bytes.length + uptoBulk d + 1
  | (_, d) => uptoBulk d + 1
 end
def uptoSmall : (H : Type) → List (DataW H) → Bool := fun _ ds => decide (uptoBulkAll ds ≤ 1048576)
def OpenSpec.upto (s : _root_.Go.ChangeSpec) : _root_.Go.OpenSpec := { _root_.Go.OpenSpec.ofChange s with cond := some uptoSmall }

/-- 'laws.FnExactCheck32', WHERE WHAT IT READS IS OF BULK AT MOST 1048576: true; the input reads as it did. -/
def fnExactCheck32UptoRow : OpenClaim := { program := "ytohlocmdpdghiaa", sum := "030118bd367d20fc3a90a5dbb7d1d1b234e26c9351bf21a1588f2fa444f11ec7", func := "loop.example/g00356/laws.FnExactCheck32", spec := "fnExactCheck32", apart := false, narrowed := true }
def FnExactCheck32UptoSaid : Prop := fnExactCheck32UptoRow.holds Try.pinned (OpenSpec.upto fnExactCheck32Spec)

/-- 'laws.FnExactNumberOf', WHERE WHAT IT READS IS OF BULK AT MOST 1048576: true; the input reads as it did. -/
def fnExactNumberOfUptoRow : OpenClaim := { program := "ytohlocmdpdghiaa", sum := "030118bd367d20fc3a90a5dbb7d1d1b234e26c9351bf21a1588f2fa444f11ec7", func := "loop.example/g00356/laws.FnExactNumberOf", spec := "fnExactNumberOf", apart := false, narrowed := true }
def FnExactNumberOfUptoSaid : Prop := fnExactNumberOfUptoRow.holds Try.pinned (OpenSpec.upto fnExactNumberOfSpec)

/-- 'laws.FnExactReadHash', WHERE WHAT IT READS IS OF BULK AT MOST 1048576: true; the input reads as it did. -/
def fnExactReadHashUptoRow : OpenClaim := { program := "ytohlocmdpdghiaa", sum := "030118bd367d20fc3a90a5dbb7d1d1b234e26c9351bf21a1588f2fa444f11ec7", func := "loop.example/g00356/laws.FnExactReadHash", spec := "fnExactReadHash", inPlace := ["internal/bytealg.IndexByteString"], apart := false, narrowed := true }
def FnExactReadHashUptoSaid : Prop := fnExactReadHashUptoRow.holds Try.pinned (OpenSpec.upto fnExactReadHashSpec)

/-- 'laws.FnExactHashBits', WHERE WHAT IT READS IS OF BULK AT MOST 1048576: true; the input reads as it did. -/
def fnExactHashBitsUptoRow : OpenClaim := { program := "ytohlocmdpdghiaa", sum := "030118bd367d20fc3a90a5dbb7d1d1b234e26c9351bf21a1588f2fa444f11ec7", func := "loop.example/g00356/laws.FnExactHashBits", spec := "fnExactHashBits", inPlace := ["internal/abi.NoEscape"], apart := false, narrowed := true }
def FnExactHashBitsUptoSaid : Prop := fnExactHashBitsUptoRow.holds Try.pinned (OpenSpec.upto fnExactHashBitsSpec)

/-- 'laws.FnExactReadFrame', WHERE WHAT IT READS IS OF BULK AT MOST 1048576: true; the input reads as it did. -/
def fnExactReadFrameUptoRow : OpenClaim := { program := "ytohlocmdpdghiaa", sum := "030118bd367d20fc3a90a5dbb7d1d1b234e26c9351bf21a1588f2fa444f11ec7", func := "loop.example/g00356/laws.FnExactReadFrame", spec := "fnExactReadFrame", apart := false, narrowed := true }
def FnExactReadFrameUptoSaid : Prop := fnExactReadFrameUptoRow.holds Try.pinned (OpenSpec.upto fnExactReadFrameSpec)

/-- 'laws.FnExactReadArp', WHERE WHAT IT READS IS OF BULK AT MOST 1048576: true; the input reads as it did. -/
def fnExactReadArpUptoRow : OpenClaim := { program := "ytohlocmdpdghiaa", sum := "030118bd367d20fc3a90a5dbb7d1d1b234e26c9351bf21a1588f2fa444f11ec7", func := "loop.example/g00356/laws.FnExactReadArp", spec := "fnExactReadArp", apart := false, narrowed := true }
def FnExactReadArpUptoSaid : Prop := fnExactReadArpUptoRow.holds Try.pinned (OpenSpec.upto fnExactReadArpSpec)

/-- 'laws.FnExactReadPacket', WHERE WHAT IT READS IS OF BULK AT MOST 1048576: true; the input reads as it did. -/
def fnExactReadPacketUptoRow : OpenClaim := { program := "ytohlocmdpdghiaa", sum := "030118bd367d20fc3a90a5dbb7d1d1b234e26c9351bf21a1588f2fa444f11ec7", func := "loop.example/g00356/laws.FnExactReadPacket", spec := "fnExactReadPacket", apart := false, narrowed := true }
def FnExactReadPacketUptoSaid : Prop := fnExactReadPacketUptoRow.holds Try.pinned (OpenSpec.upto fnExactReadPacketSpec)

/-- 'laws.FnExactReadDhcp', WHERE WHAT IT READS IS OF BULK AT MOST 1048576: true; the input reads as it did. -/
def fnExactReadDhcpUptoRow : OpenClaim := { program := "ytohlocmdpdghiaa", sum := "030118bd367d20fc3a90a5dbb7d1d1b234e26c9351bf21a1588f2fa444f11ec7", func := "loop.example/g00356/laws.FnExactReadDhcp", spec := "fnExactReadDhcp", apart := false, narrowed := true }
def FnExactReadDhcpUptoSaid : Prop := fnExactReadDhcpUptoRow.holds Try.pinned (OpenSpec.upto fnExactReadDhcpSpec)

end Rows
end Go.Proofs.Ytohlocmdpdghiaa
