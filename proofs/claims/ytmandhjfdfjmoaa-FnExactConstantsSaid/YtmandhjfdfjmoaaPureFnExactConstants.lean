/- The pure statement of the law FnExactConstants: whatever is given, the printed function of the law comes to true. -/
import Derived.Test.YtmandhjfdfjmoaaPFnExactConstantsx1
import Derived.Test.YtmandhjfdfjmoaaBase
set_option linter.unusedSimpArgs false
set_option linter.unusedVariables false
namespace Go.Proofs.Ytmandhjfdfjmoaa.Pure
open Go.RowKit Go.Proofs.Ytmandhjfdfjmoaa.PFnExactConstants Go.Proofs.YtmandhjfdfjmoaaW.PrintWords Go.Proofs.YtmandhjfdfjmoaaW.PrintLast Go.Proofs.YtmandhjfdfjmoaaW.PrintMore Base

theorem FnExactConstants : laws_FnExactConstants.Pure := rfl

end Go.Proofs.Ytmandhjfdfjmoaa.Pure
