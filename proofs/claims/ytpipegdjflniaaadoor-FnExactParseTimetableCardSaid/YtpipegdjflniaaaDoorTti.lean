/- Trips found by their ids; a timetable's marks. -/
import Derived.Test.YtpipegdjflniaaaDoorTts
import Derived.Test.YtpipegdjflniaaaDoorLnA
namespace Go.Proofs.YtpipegdjflniaaaDoor
open Go.ChangeShapes Go.WideShapes Go.ChangeAt Go.RowKit Go.PlainAid
set_option linter.unusedVariables false

/-- Does the k-th trip bear an id? -/
def idAt (xs : List I3) (id : Int) (k : Nat) : Bool := (nth3 xs k).a == id
/-- The place of the trip with an id, or -1. -/
def idI (xs : List I3) (id : Int) : Int := ixN xs.length (idAt xs id)
theorem idI_bd (xs : List I3) (id : Int) : -1 ≤ idI xs id ∧ idI xs id < xs.length := by
  unfold idI
  rcases ixN_cases xs.length (idAt xs id) with ⟨k, hk, _, _, e⟩ | ⟨_, e⟩ <;> rw [e] <;> omega

theorem fitsT_le {x : TTD} (h : szTT x ≤ 1048576) : FitsT x := by
  unfold szTT at h
  exact ⟨fits_le (by omega), by omega⟩
end Go.Proofs.YtpipegdjflniaaaDoor
