/- Times. -/
import Derived.Test.YtpipegdjflniaaaDoorMem
namespace Go.Proofs.YtpipegdjflniaaaDoor
open Go.ChangeShapes Go.WideShapes Go.ChangeAt Go.RowKit Go.PlainAid
set_option linter.unusedVariables false
set_option linter.unusedSimpArgs false

/-- Is it a time? -/
def tmB (t : Int) : Bool := decide (0 ≤ t ∧ t ≤ 1799)
theorem tmB_yes {t : Int} (h0 : 0 ≤ t) (h1 : t ≤ 1799) : tmB t = true := by simp [tmB, h0, h1]
theorem tmB_iff {t : Int} : tmB t = true ↔ 0 ≤ t ∧ t ≤ 1799 := by simp [tmB]

theorem isValidTime_any (t : Int) (w : World) :
    Calls Tryd.prog 71 #[.int .i64 t] w fun e w' => e = .returned (.bool (tmB t)) ∧ w = w' := by
  unfold tmB
  by_cases h1 : 0 ≤ t
  all_goals
    go_enter Tryd.func71, Tryd.ntmps71
    go_wp2_with (first | go_in | fail)
    go_ret
    refine ⟨retB ?_, rfl⟩
    simp [h1]
  all_goals omega

theorem l4Time_any (t : Int) (w : World) :
    Calls Tryd.prog 46 #[.int .i64 t] w fun e w' => e = .returned (.bool (tmB t)) ∧ w = w' := by
  unfold tmB
  by_cases h1 : 0 ≤ t
  all_goals
    go_enter Tryd.func46, Tryd.ntmps46
    go_wp2_with (first | go_in | fail)
    go_ret
    refine ⟨retB ?_, rfl⟩
    simp [h1]
  all_goals omega

end Go.Proofs.YtpipegdjflniaaaDoor
