/- Results in memory; numbers that pass a test. -/
import Derived.Test.YtemhcobjhpifpaaApp
namespace Go.Proofs.Ytemhcobjhpifpaa
open Go.ChangeShapes Go.WideShapes Go.ChangeAt Go.RowKit Go.PlainAid
set_option linter.unusedVariables false

theorem szNet_le {n : Nat} {left : Int} (h : ¬ szI n left < 0) (hl : left ≤ 1048576) : n ≤ 1048576 := by unfold szI at h; split at h <;> omega

/-- A slice of integers in new memory, and a boolean. -/
def RetInts (xs : List Int) (b : Bool) (w : World) (e : Ending) (w' : World) : Prop :=
  ∃ A c, e = .returned (.tuple #[.slice A xs.length c, .bool b]) ∧ IntsIn w' (Zone.new w.heap.size w'.heap.size) A xs ∧ Below w.heap.size w w'
/-- What a slice of the call's own is at its end. -/
theorem OwnE.ret {w0 w : World} {B : Nat} {v : Value} {xs : List Int} {b : Bool} (h : OwnI w B v xs) (hB : w0.heap.size ≤ B) (hb : Below w0.heap.size w0 w) : RetInts xs b w0 (.returned (.tuple #[v, .bool b])) w := by
  obtain ⟨A, c, rfl, _, _, hi⟩ := h.ints
  exact ⟨A, c, rfl, hi.mono (Zone.new_le hB (Nat.le_refl _)), hb⟩
theorem retNil {w0 w : World} {xs : List Int} {b : Bool} (h : xs = []) (hb : Below w0.heap.size w0 w) : RetInts xs b w0 (.returned (.tuple #[.slice none 0 0, .bool b])) w := by
  subst h
  exact ⟨none, 0, rfl, fun h => absurd h (by simp), hb⟩

/-- The numbers below n of which p says yes. -/
def filt (n : Nat) (p : Nat → Bool) : List Int := ((List.range n).filter p).map Int.ofNat
theorem filt_yes {k : Nat} {p : Nat → Bool} (h : p k = true) : filt (k + 1) p = filt k p ++ [(k : Int)] := by
  unfold filt
  rw [List.range_succ, List.filter_append, List.map_append, List.filter_cons, if_pos h]
  rfl
theorem filt_no {k : Nat} {p : Nat → Bool} (h : p k = false) : filt (k + 1) p = filt k p := by
  unfold filt
  rw [List.range_succ, List.filter_append, List.filter_cons, if_neg (by simp [h])]
  simp
theorem filt_len (n : Nat) (p : Nat → Bool) : (filt n p).length ≤ n := by
  unfold filt
  rw [List.length_map]
  have := List.length_filter_le p (List.range n)
  simpa using this
end Go.Proofs.Ytemhcobjhpifpaa
