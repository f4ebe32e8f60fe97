import Derived.Test.YthfhflgiblmooaaZFsWInv
import Derived.Test.YthfhflgiblmooaaZFsWFootNe
namespace Go.Proofs.YthfhflgiblmooaaW.PrintWords
open Go.RowKit
end Go.Proofs.YthfhflgiblmooaaW.PrintWords
namespace Go.Proofs.YthfhflgiblmooaaW.PrintLast
section
variable {ops : Array Oper} {a : Act} {o og : Oper} {g : Nat} {t : Tmp} {u : Bool}
end
end Go.Proofs.YthfhflgiblmooaaW.PrintLast
