/- TerminalStops: plain laws. -/
import Derived.Test.YtbneigkgdjcnjaaPut
namespace Go.Proofs.Ytbneigkgdjcnjaa
open Go.ChangeShapes Go.WideShapes Go.ChangeAt Go.RowKit Go.PlainAid
set_option linter.unusedVariables false

theorem put_snoc (xs : List Int) (n v : Int) (h : v < n) : putI (xs ++ [n]) v = putI xs v ++ [n] := by
  induction xs with
  | nil => simp only [List.nil_append, putI]; rw [if_neg (by omega), if_neg (by omega)]; rfl
  | cons x xs ih =>
    simp only [List.cons_append, putI]
    rw [ih]
    split
    · rfl
    · split <;> rfl
theorem put_end (xs : List Int) (v : Int) (h : ∀ x ∈ xs, x < v) : putI xs v = xs ++ [v] := by
  induction xs with
  | nil => rfl
  | cons x xs ih =>
    simp only [putI]
    rw [if_pos (h x (by simp)), ih (fun y hy => h y (by simp [hy]))]
    rfl
theorem put_again (xs : List Int) (v : Int) (h : ∀ x ∈ xs, x < v) : putI (xs ++ [v]) v = xs ++ [v] := by
  induction xs with
  | nil => simp [putI]
  | cons x xs ih =>
    simp only [List.cons_append, putI]
    rw [if_pos (h x (by simp)), ih (fun y hy => h y (by simp [hy]))]
theorem filt_lt (n : Nat) (p : Nat → Bool) : ∀ x ∈ filt n p, x < (n : Int) := by
  induction n with
  | zero => intro x hx; simp [filt] at hx
  | succ n ih =>
    intro x hx
    cases h : p n
    · rw [filt_no h] at hx
      have := ih x hx
      omega
    · rw [filt_yes h] at hx
      rcases List.mem_append.1 hx with h1 | h1
      · have := ih x h1
        omega
      · simp at h1
        omega
theorem filt_congr {n : Nat} {p q : Nat → Bool} (h : ∀ j, j < n → p j = q j) : filt n p = filt n q := by
  induction n with
  | zero => rfl
  | succ n ih =>
    have e := ih (fun j hj => h j (by omega))
    cases hq : q n
    · rw [filt_no hq, filt_no (by rw [h n (by omega)]; exact hq), e]
    · rw [filt_yes hq, filt_yes (by rw [h n (by omega)]; exact hq), e]
/-- A number below n put into the rising list of the numbers that p chooses. -/
theorem put_filt {n v : Nat} (p : Nat → Bool) (h : v < n) : putI (filt n p) (v : Int) = filt n (fun j => p j || j == v) := by
  induction n with
  | zero => omega
  | succ n ih =>
    by_cases e : v = n
    · subst e
      have hq : (fun j => p j || j == v) v = true := by simp
      have hcg : filt v (fun j => p j || j == v) = filt v p := filt_congr fun j hj => by
        have : (j == v) = false := by simp; omega
        show (p j || j == v) = p j
        rw [this, Bool.or_false]
      rw [filt_yes (p := fun j => p j || j == v) hq, hcg]
      cases hp : p v
      · rw [filt_no hp, put_end _ _ (filt_lt v p)]
      · rw [filt_yes hp, put_again _ _ (filt_lt v p)]
    · have hv : v < n := by omega
      have hb : (n == v) = false := by simp; omega
      cases hp : p n
      · rw [filt_no hp, filt_no (p := fun j => p j || j == v) (by simp only [hp, hb]; rfl), ih hv]
      · rw [filt_yes hp, filt_yes (p := fun j => p j || j == v) (by simp only [hp]; rfl), put_snoc _ _ _ (by omega), ih hv]

/-! ### Ends of lines -/
def endB (y : LineD) (s : Int) : Bool := nth y.stops 0 == s || nth y.stops (y.stops.length - 1) == s
/-- Does one of the first k lines end at a stop? -/
def anyK (x : NetD) : Nat → Nat → Bool
  | 0, _ => false
  | k + 1, s => anyK x k s || endB (nthL x.lines k) (s : Int)
theorem anyK_iff (x : NetD) (s : Nat) : ∀ k, anyK x k s = true ↔ ∃ j, j < k ∧ endB (nthL x.lines j) (s : Int) = true := by
  intro k
  induction k with
  | zero => simp [anyK]
  | succ k ih =>
    simp only [anyK, Bool.or_eq_true, ih]
    constructor
    · rintro (⟨j, hj, h⟩ | h)
      · exact ⟨j, by omega, h⟩
      · exact ⟨k, by omega, h⟩
    · rintro ⟨j, hj, h⟩
      by_cases e : j = k
      · subst e; exact .inr h
      · exact .inl ⟨j, by omega, h⟩

end Go.Proofs.Ytbneigkgdjcnjaa
