/- The law FnExactConstants returns true: its printed function is the constant true. No condition. -/
import Derived.Test.YtikdpjjigmhljaaPFnExactConstantsx1
namespace Go.Proofs.Ytikdpjjigmhljaa.Pure
open Go.RowKit Go.Proofs.Ytikdpjjigmhljaa.PFnExactConstants Go.Proofs.YtikdpjjigmhljaaW.PrintWords Go.Proofs.YtikdpjjigmhljaaW.PrintLast

theorem FnExactConstants : laws_FnExactConstants.Pure := rfl

end Go.Proofs.Ytikdpjjigmhljaa.Pure
