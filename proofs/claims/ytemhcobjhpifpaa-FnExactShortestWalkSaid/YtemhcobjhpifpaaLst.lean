/- Lists of numbers, one of which is set. -/
import Derived.Test.YtemhcobjhpifpaaMem
namespace Go.Proofs.Ytemhcobjhpifpaa
open Go.ChangeShapes Go.WideShapes Go.ChangeAt Go.RowKit Go.PlainAid
set_option linter.unusedVariables false

/-! ### Lists of numbers, one of which is set -/
theorem nth_set_same {xs : List Int} {k : Nat} (v : Int) (h : k < xs.length) : nth (xs.set k v) k = v := by
  unfold nth
  rw [List.getD_eq_getElem?_getD, List.getElem?_set_self h]
  rfl
theorem nth_set_ne {xs : List Int} {k j : Nat} (v : Int) (h : k ≠ j) : nth (xs.set k v) j = nth xs j := by
  unfold nth
  rw [List.getD_eq_getElem?_getD, List.getElem?_set_ne h, List.getD_eq_getElem?_getD]
/-- How many are not negative. -/
def setN : List Int → Nat
  | [] => 0
  | x :: xs => (if 0 ≤ x then 1 else 0) + setN xs
theorem setN_le (xs : List Int) : setN xs ≤ xs.length := by
  induction xs with
  | nil => exact Nat.le_refl _
  | cons x xs ih => simp only [setN, List.length_cons]; split <;> omega
theorem setN_set {xs : List Int} {k : Nat} {v : Int} (h : k < xs.length) (h0 : nth xs k < 0) (hv : 0 ≤ v) : setN (xs.set k v) = setN xs + 1 := by
  induction xs generalizing k with
  | nil => simp at h
  | cons x xs ih =>
    cases k with
    | zero =>
      have hx : x < 0 := h0
      simp only [List.set, setN]
      rw [if_pos hv, if_neg (by omega)]
      omega
    | succ k =>
      have := ih (k := k) (by simpa using h) h0
      simp only [List.set, setN]
      rw [this]
      omega

theorem setN_keep {xs : List Int} {k : Nat} {v : Int} (h : k < xs.length) (h0 : 0 ≤ nth xs k) (hv : 0 ≤ v) : setN (xs.set k v) = setN xs := by
  induction xs generalizing k with
  | nil => simp at h
  | cons x xs ih =>
    cases k with
    | zero =>
      have hx : 0 ≤ x := h0
      simp only [List.set, setN]
      rw [if_pos hv, if_pos hx]
    | succ k =>
      have := ih (k := k) (by simpa using h) h0
      simp only [List.set, setN]
      rw [this]

end Go.Proofs.Ytemhcobjhpifpaa
