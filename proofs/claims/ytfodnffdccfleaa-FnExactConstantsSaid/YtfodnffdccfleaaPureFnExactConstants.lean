/- The law FnExactConstants: for every input the printed function of the law answers true. No condition. -/
import Derived.Test.YtfodnffdccfleaaPFnExactConstantsx1
import Derived.Test.YtfodnffdccfleaaPlain
set_option linter.unusedVariables false
set_option linter.unusedSimpArgs false
namespace Go.Proofs.Ytfodnffdccfleaa.Pure
open Go.RowKit Go.Proofs.Ytfodnffdccfleaa.PFnExactConstants Go.Proofs.YtfodnffdccfleaaW.PrintWords Go.Proofs.YtfodnffdccfleaaW.PrintLast Go.Proofs.YtfodnffdccfleaaW.PrintMore Go.Proofs.Ytfodnffdccfleaa.Plain

theorem FnExactConstants : laws_FnExactConstants.Pure := rfl

end Go.Proofs.Ytfodnffdccfleaa.Pure
