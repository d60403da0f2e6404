/- Small facts for the laws' walks. -/
import Derived.Test.YtbneigkgdjcnjaaNetC
import Derived.Test.YtbneigkgdjcnjaaMrn
namespace Go.Proofs.Ytbneigkgdjcnjaa
open Go.ChangeShapes Go.WideShapes Go.ChangeAt Go.RowKit Go.PlainAid
set_option linter.unusedVariables false

theorem szNet_le {n : Nat} {left : Int} (h : ¬ szI n left < 0) (hl : left ≤ 1048576) : n ≤ 1048576 := by unfold szI at h; split at h <;> omega
theorem fits_le {x : NetD} (h : szNet x ≤ 1048576) : Fits x := fits_of (by unfold szI; rw [if_neg (by omega)]; omega)

/-- A slice of integers in new memory, and a boolean. -/
def RetInts (xs : List Int) (b : Bool) (w : World) (e : Ending) (w' : World) : Prop :=
  ∃ A c, e = .returned (.tuple #[.slice A xs.length c, .bool b]) ∧ IntsIn w' (Zone.new w.heap.size w'.heap.size) A xs ∧ Below w.heap.size w w'
end Go.Proofs.Ytbneigkgdjcnjaa
