/- The plain law of the statement FnExactConstants: what the program's function computes is what the reference's computes, for all arguments; no condition. -/
import Derived.Test.YthhnpklgodaipaaPFnExactConstantsx1
namespace Go.Proofs.Ythhnpklgodaipaa.Pure
open Go.RowKit Go.Proofs.Ythhnpklgodaipaa.PFnExactConstants Go.Proofs.YthhnpklgodaipaaW.PrintWords Go.Proofs.YthhnpklgodaipaaW.PrintLast Go.Proofs.YthhnpklgodaipaaW.PrintMore

theorem FnExactConstants : laws_FnExactConstants.Pure := rfl

end Go.Proofs.Ythhnpklgodaipaa.Pure
