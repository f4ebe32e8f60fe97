-- Printed by this session's own program (wip/tools/myprint.py over the kit's print, out of the translation). Nothing here is trusted: Lean checks it.
import Derived.Test.YtohlocmdpdghiaaProg
import Derived.Below
import Derived.Deep.Draws
import Derived.Deep.AppendLies
import Derived.Maps.AppendAt
import Derived.OwnWalk
import Derived.Laws.BytesArg
import Derived.Laws.MakeOwn
import Derived.Laws.OwnMore
import Derived.Deep.OwnRows
import Derived.Tactics
import Derived.Lib.ConvBytes
import Derived.Laws.Slices
import Derived.WalkKit
import Derived.KernelRfl
import Derived.RowKit3
import Derived.Deep.LoopGhost
import Derived.Deep.QuietTactic
import Derived.BigQuiet
import Derived.WideLaws
import Derived.Deep.DeepCutAuto
import Derived.Deep.CutBlock
import Derived.Deep.RegionHeld3
import Derived.Laws.Rows
import Derived.Lib.AppendStr
import Derived.ArgAppend
import Derived.Laws.IdiomCopy
import Derived.OrdersHeld
import Derived.Laws.BitsLemmas
import Derived.RowKit
import Derived.Test.YtohlocmdpdghiaaWWords
import Derived.Test.YtohlocmdpdghiaaWLast
import Derived.Test.YtohlocmdpdghiaaWTab
import Derived.Test.YtohlocmdpdghiaaWFour
import Derived.Test.YtohlocmdpdghiaaWQPut
import Derived.Test.YtohlocmdpdghiaaWApart
import Derived.Test.YtohlocmdpdghiaaWArr
import Derived.Test.YtohlocmdpdghiaaWZeros
import Derived.Test.YtohlocmdpdghiaaWFoot
import Derived.Test.YtohlocmdpdghiaaWKept
import Derived.Test.YtohlocmdpdghiaaWShare
import Derived.Test.YtohlocmdpdghiaaWN
import Derived.Test.YtohlocmdpdghiaaWFootNe
import Derived.Test.YtohlocmdpdghiaaWAt
import Derived.Test.YtohlocmdpdghiaaWEqStruct
import Derived.Test.YtohlocmdpdghiaaWRepsOne
import Derived.Test.YtohlocmdpdghiaaWInv
import Derived.Test.YtohlocmdpdghiaaWInvWords
import Derived.Test.YtohlocmdpdghiaaWGuard
import Derived.Test.YtohlocmdpdghiaaWNEv
import Derived.Test.YtohlocmdpdghiaaWMore
namespace Go.Proofs.Ytohlocmdpdghiaa.PAll
open Go.RowKit Go.Proofs.YtohlocmdpdghiaaW.PrintWords Go.Proofs.YtohlocmdpdghiaaW.PrintLast Go.Proofs.YtohlocmdpdghiaaW.PrintMore
attribute [local go_sem] max2_int min2_int max_two min_two max_three min_three max_four min_four   -- for this text's walks alone
set_option linter.unusedVariables false
set_option linter.unusedSimpArgs false



def errW : Option Int → Value
  | none => .nilIface
  | some c => .iface 0 (.int .i64 c)
theorem errW_none : errW none = .nilIface := rfl
theorem errW_some (c : Int) : errW (some c) = .iface 0 (.int .i64 c) := rfl

theorem info5 : (Try.prog.info? 5).map (fun i => (i.zero, i.size, i.bytes)) = some (some (.int .u8 0), 1, 1) := by kernel_rfl
/-- 'string(b)' of a slice that is read, its length spelled otherwise. -/
theorem str_of_cut {P : Program} {w : World} {src dst e : TypeId} {A : Option Addr} {n n' c : Nat} {xs : List Int} (hs : P.underlying src = some (.slice e)) (he : P.underlying e = some (.int .u8)) (hd : P.underlying dst = some .string) (hn : n = n')
    (h : (Kd.int .u8).C w A n xs) : (convert src dst (.slice A n' c)).run P w = .ok (.string (strOfNums xs)) w := by
  subst hn; exact Kd.C_string hs he hd h
-- the values' own types

end Go.Proofs.Ytohlocmdpdghiaa.PAll
