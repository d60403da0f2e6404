/- Small facts for the laws' walks over networks. -/
import Derived.Test.YtpipegdjflniaaaDoorNetC
import Derived.Test.YtpipegdjflniaaaDoorMrn
import Derived.Test.YtpipegdjflniaaaDoorRet
namespace Go.Proofs.YtpipegdjflniaaaDoor
open Go.ChangeShapes Go.WideShapes Go.ChangeAt Go.RowKit Go.PlainAid
set_option linter.unusedVariables false

theorem fits_le {x : NetD} (h : szNet x ≤ 1048576) : Fits x := fits_of (by unfold szI; rw [if_neg (by omega)]; omega)
end Go.Proofs.YtpipegdjflniaaaDoor
