/- Small facts for the laws' walks over networks. -/
import Derived.Test.YtemhcobjhpifpaaNetC
import Derived.Test.YtemhcobjhpifpaaMrn
import Derived.Test.YtemhcobjhpifpaaRet
namespace Go.Proofs.Ytemhcobjhpifpaa
open Go.ChangeShapes Go.WideShapes Go.ChangeAt Go.RowKit Go.PlainAid
set_option linter.unusedVariables false

theorem fits_le {x : NetD} (h : szNet x ≤ 1048576) : Fits x := fits_of (by unfold szI; rw [if_neg (by omega)]; omega)
end Go.Proofs.Ytemhcobjhpifpaa
