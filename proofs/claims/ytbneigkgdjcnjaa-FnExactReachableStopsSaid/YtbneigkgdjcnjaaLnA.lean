/- Small facts for the laws' walks over networks. -/
import Derived.Test.YtbneigkgdjcnjaaNetC
import Derived.Test.YtbneigkgdjcnjaaMrn
import Derived.Test.YtbneigkgdjcnjaaRet
namespace Go.Proofs.Ytbneigkgdjcnjaa
open Go.ChangeShapes Go.WideShapes Go.ChangeAt Go.RowKit Go.PlainAid
set_option linter.unusedVariables false

theorem fits_le {x : NetD} (h : szNet x ≤ 1048576) : Fits x := fits_of (by unfold szI; rw [if_neg (by omega)]; omega)
end Go.Proofs.Ytbneigkgdjcnjaa
