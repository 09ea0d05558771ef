/- What is left of 'FnExactConstants' behind the print: the law's function answers true. No condition. -/
import Derived.Test.YtgogfloppnhceaaPFnExactConstantsx1
namespace Go.Proofs.Ytgogfloppnhceaa.Pure
open Go.RowKit Go.Proofs.Ytgogfloppnhceaa.PFnExactConstants Go.Proofs.YtgogfloppnhceaaW.PrintWords Go.Proofs.YtgogfloppnhceaaW.PrintLast

theorem FnExactConstants : laws_FnExactConstants.Pure := rfl

end Go.Proofs.Ytgogfloppnhceaa.Pure
