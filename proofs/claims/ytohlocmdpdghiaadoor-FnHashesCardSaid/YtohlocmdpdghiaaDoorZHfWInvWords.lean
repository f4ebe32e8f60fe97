import Derived.Test.YtohlocmdpdghiaaDoorZHfWInv
import Derived.Test.YtohlocmdpdghiaaDoorZHfWFootNe
namespace Go.Proofs.YtohlocmdpdghiaaDoorW.PrintWords
open Go.RowKit
end Go.Proofs.YtohlocmdpdghiaaDoorW.PrintWords
namespace Go.Proofs.YtohlocmdpdghiaaDoorW.PrintLast
section
variable {ops : Array Oper} {a : Act} {o og : Oper} {g : Nat} {t : Tmp} {u : Bool}
end
end Go.Proofs.YtohlocmdpdghiaaDoorW.PrintLast
