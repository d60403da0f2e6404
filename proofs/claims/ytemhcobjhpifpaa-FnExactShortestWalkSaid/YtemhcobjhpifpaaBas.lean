/- Contracts of the two functions that tell whether a number lies within bounds. -/
import Derived.Test.YtemhcobjhpifpaaRows
import Derived.WalkKit
import Derived.ProofKit
import Derived.WalkSpells
import Derived.WalkLawsBesides
import Derived.Below
import Derived.Lib.Hide
import Derived.Handy
namespace Go.Proofs.Ytemhcobjhpifpaa
open Go.ChangeShapes Go.WideShapes Go.ChangeAt Go.RowKit
set_option linter.unusedVariables false

/-- Is it within bounds? -/
def inB (x a b : Int) : Bool := decide (a ≤ x ∧ x ≤ b)
theorem inB_yes {x a b : Int} (h1 : a ≤ x) (h2 : x ≤ b) : inB x a b = true := by simp [inB, h1, h2]
theorem inB_no {x a b : Int} (h : ¬ (a ≤ x ∧ x ≤ b)) : inB x a b = false := by simp only [inB, h, decide_false]
theorem inB_iff {x a b : Int} : inB x a b = true ↔ a ≤ x ∧ x ≤ b := by simp [inB]
theorem inB_iff' {x a b : Int} : inB x a b = false ↔ ¬ (a ≤ x ∧ x ≤ b) := by rw [← inB_iff]; simp
theorem l1In_any (x a b : Int) (w : World) :
    Calls Try.prog 20 #[.int .i64 x, .int .i64 a, .int .i64 b] w fun e w' => e = .returned (.bool (inB x a b)) ∧ w = w' := by
  unfold inB
  by_cases h1 : a ≤ x
  all_goals
    go_enter Try.func20, Try.ntmps20
    go_wp2
    go_ret
    refine ⟨congrArg (fun b => Ending.returned (Value.bool b)) ?_, rfl⟩
    simp [h1]
  all_goals omega
theorem within_any (x a b : Int) (w : World) :
    Calls Try.prog 51 #[.int .i64 x, .int .i64 a, .int .i64 b] w fun e w' => e = .returned (.bool (inB x a b)) ∧ w = w' := by
  unfold inB
  by_cases h1 : a ≤ x
  all_goals
    go_enter Try.func51, Try.ntmps51
    go_wp2
    go_ret
    refine ⟨congrArg (fun b => Ending.returned (Value.bool b)) ?_, rfl⟩
    simp [h1]
  all_goals omega
end Go.Proofs.Ytemhcobjhpifpaa
