-- Printed by this session's own program (wip/tools/myprint.py over the kit's print, out of the translation). Nothing here is trusted: Lean checks it.
import Derived.Test.YtmandhjfdfjmoaaProg
import Derived.Below
import Derived.Deep.Draws
import Derived.Deep.AppendLies
import Derived.Maps.AppendAt
import Derived.OwnWalk
import Derived.Laws.BytesArg
import Derived.Laws.MakeOwn
import Derived.Laws.OwnMore
import Derived.Deep.OwnRows
import Derived.Tactics
import Derived.Lib.ConvBytes
import Derived.Laws.Slices
import Derived.WalkKit
import Derived.KernelRfl
import Derived.RowKit3
import Derived.Deep.LoopGhost
import Derived.Deep.QuietTactic
import Derived.BigQuiet
import Derived.WideLaws
import Derived.Deep.DeepCutAuto
import Derived.Deep.CutBlock
import Derived.Deep.RegionHeld3
import Derived.Laws.Rows
import Derived.Lib.AppendStr
import Derived.ArgAppend
import Derived.Laws.IdiomCopy
import Derived.OrdersHeld
import Derived.Laws.BitsLemmas
import Derived.RowKit
import Derived.Test.YtmandhjfdfjmoaaWWords
import Derived.Test.YtmandhjfdfjmoaaWLast
import Derived.Test.YtmandhjfdfjmoaaWTab
import Derived.Test.YtmandhjfdfjmoaaWFour
import Derived.Test.YtmandhjfdfjmoaaWQPut
import Derived.Test.YtmandhjfdfjmoaaWApart
import Derived.Test.YtmandhjfdfjmoaaWArr
import Derived.Test.YtmandhjfdfjmoaaWZeros
import Derived.Test.YtmandhjfdfjmoaaWFoot
import Derived.Test.YtmandhjfdfjmoaaWKept
import Derived.Test.YtmandhjfdfjmoaaWShare
import Derived.Test.YtmandhjfdfjmoaaWN
import Derived.Test.YtmandhjfdfjmoaaWFootNe
import Derived.Test.YtmandhjfdfjmoaaWAt
import Derived.Test.YtmandhjfdfjmoaaWEqStruct
import Derived.Test.YtmandhjfdfjmoaaWRepsOne
import Derived.Test.YtmandhjfdfjmoaaWInv
import Derived.Test.YtmandhjfdfjmoaaWInvWords
import Derived.Test.YtmandhjfdfjmoaaWGuard
import Derived.Test.YtmandhjfdfjmoaaWNEv
import Derived.Test.YtmandhjfdfjmoaaWMore
namespace Go.Proofs.Ytmandhjfdfjmoaa.PAllB
open Go.RowKit Go.Proofs.YtmandhjfdfjmoaaW.PrintWords Go.Proofs.YtmandhjfdfjmoaaW.PrintLast Go.Proofs.YtmandhjfdfjmoaaW.PrintMore
attribute [local go_sem] max2_int min2_int max_two min_two max_three min_three max_four min_four   -- for this text's walks alone
set_option linter.unusedVariables false
set_option linter.unusedSimpArgs false



def errW : Option Int → Value
  | none => .nilIface
  | some c => .iface 0 (.int .i64 c)
theorem errW_none : errW none = .nilIface := rfl
theorem errW_some (c : Int) : errW (some c) = .iface 0 (.int .i64 c) := rfl

theorem info5 : (Try.prog.info? 5).map (fun i => (i.zero, i.size, i.bytes)) = some (some (.int .u8 0), 1, 1) := by kernel_rfl
-- the values' own types

end Go.Proofs.Ytmandhjfdfjmoaa.PAllB
