/- The constants are the reference's. -/
import Derived.Test.YtoijegeioafbiaaPFnExactConstantsx1
import Derived.Test.YtoijegeioafbiaaBBase
set_option linter.unusedVariables false
set_option linter.unusedSimpArgs false
namespace Go.Proofs.Ytoijegeioafbiaa.Pure
open Go.RowKit Go.Proofs.Ytoijegeioafbiaa.PFnExactConstants Go.Proofs.YtoijegeioafbiaaW.PrintWords Go.Proofs.YtoijegeioafbiaaW.PrintLast Go.Proofs.YtoijegeioafbiaaW.PrintMore Go.Proofs.Ytoijegeioafbiaa.B

theorem FnExactConstants : laws_FnExactConstants.Pure := rfl


end Go.Proofs.Ytoijegeioafbiaa.Pure
