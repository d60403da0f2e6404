/- TripsRunning: contracts. -/
import Derived.Test.YtpipegdjflniaaaDoorTtg
import Derived.Test.YtpipegdjflniaaaDoorTti
namespace Go.Proofs.YtpipegdjflniaaaDoor
open Go.ChangeShapes Go.WideShapes Go.ChangeAt Go.RowKit Go.PlainAid
set_option linter.unusedVariables false
set_option linter.unusedSimpArgs false

/-- The numbers f k of those k below n of which p says yes. -/
def pickI (f : Nat → Int) (p : Nat → Bool) : Nat → List Int
  | 0 => []
  | k + 1 => if p k = true then pickI f p k ++ [f k] else pickI f p k
theorem pick_yes {f : Nat → Int} {p : Nat → Bool} {k : Nat} (h : p k = true) : pickI f p (k + 1) = pickI f p k ++ [f k] := by simp only [pickI]; rw [if_pos h]
theorem pick_no {f : Nat → Int} {p : Nat → Bool} {k : Nat} (h : p k = false) : pickI f p (k + 1) = pickI f p k := by simp only [pickI]; rw [if_neg (by rw [h]; simp)]
theorem pick_len (f : Nat → Int) (p : Nat → Bool) (n : Nat) : (pickI f p n).length ≤ n := by
  induction n with
  | zero => simp [pickI]
  | succ n ih =>
    simp only [pickI]
    split
    · rw [List.length_append]; simp; omega
    · omega
def idF (x : TTD) (k : Nat) : Int := (nth3 x.trips k).a
def runsF (x : TTD) (s : Int) (k : Nat) : Bool := decide ((nth3 x.trips k).c ≤ s) && decide (s < endI x (nth3 x.trips k))
/-- What TripsRunning returns. -/
def trB (x : TTD) (s : Int) : Bool := ttB x && tmB s
def trI (x : TTD) (s : Int) : List Int := if trB x s = true then pickI (idF x) (runsF x s) x.trips.length else []
theorem trI_no {x : TTD} {s : Int} (h : trB x s = false) : trI x s = [] := by unfold trI; rw [h]; rfl
theorem trI_yes {x : TTD} {s : Int} (h : trB x s = true) : trI x s = pickI (idF x) (runsF x s) x.trips.length := by unfold trI; rw [h]; rfl
theorem trI_len (x : TTD) (s : Int) : (trI x s).length ≤ x.trips.length := by
  unfold trI
  split
  · exact pick_len _ _ _
  · simp
theorem ti_of {x : TTD} (h : ttB x = true) {k : Nat} (hk : k < x.trips.length) : Ti x k := by
  obtain ⟨h1, h2⟩ := ttB_ok h
  obtain ⟨_, _, b0, b1, c, _⟩ := (h2.2 k hk).1
  have := tmB_iff.1 c
  exact ⟨hk, b0, b1, this.1, this.2, h1⟩

end Go.Proofs.YtpipegdjflniaaaDoor
