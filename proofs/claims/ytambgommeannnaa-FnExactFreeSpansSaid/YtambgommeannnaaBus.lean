/- BusiestTime: contracts. -/
import Derived.Test.YtambgommeannnaaSpv
namespace Go.Proofs.Ytambgommeannnaa
open Go.ChangeShapes Go.WideShapes Go.ChangeAt Go.RowKit Go.PlainAid
set_option linter.unusedVariables false

/-- What BusiestTime returns. -/
def btT (xs : List I2) : Int := if spansB xs = true then (bestU xs 1799 : Nat) else 0
def btM (xs : List I2) : Int := if spansB xs = true then (cAt xs (bestU xs 1799 : Nat) : Nat) else 0
theorem bt_no {xs : List I2} (h : spansB xs = false) : btT xs = 0 ∧ btM xs = 0 := by unfold btT btM; rw [h]; exact ⟨rfl, rfl⟩
theorem bt_yes {xs : List I2} (h : spansB xs = true) : btT xs = (bestU xs 1799 : Nat) ∧ btM xs = (cAt xs (bestU xs 1799 : Nat) : Nat) := by unfold btT btM; rw [h]; exact ⟨rfl, rfl⟩
theorem retT3 {a a' b b' : Int} {c c' : Bool} (h1 : a = a') (h2 : b = b') (h3 : c = c') : Ending.returned (.tuple #[.int .i64 a, .int .i64 b, .bool c]) = .returned (.tuple #[.int .i64 a', .int .i64 b', .bool c']) := by rw [h1, h2, h3]

end Go.Proofs.Ytambgommeannnaa
