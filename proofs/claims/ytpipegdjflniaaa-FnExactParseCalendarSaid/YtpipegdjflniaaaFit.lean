/- FitCalendar: plain. -/
import Derived.Test.YtpipegdjflniaaaHas
import Derived.Test.YtpipegdjflniaaaCalC
namespace Go.Proofs.Ytpipegdjflniaaa
open Go.ChangeShapes Go.WideShapes Go.ChangeAt Go.RowKit Go.PlainAid
set_option linter.unusedVariables false

theorem or_small (a b : Nat) (ha : a < 128) (hb : b < 128) : bits .or .i64 (a : Int) (b : Int) = ((a ||| b : Nat) : Int) := by
  have hx : a ||| b < 2 ^ 7 := Nat.or_lt_two_pow (by omega) (by omega)
  have h1 : (BitVec.ofInt 64 (a : Int)).toNat = a := by
    rw [BitVec.ofInt_natCast, BitVec.toNat_ofNat]; exact Nat.mod_eq_of_lt (by omega)
  have h2 : (BitVec.ofInt 64 (b : Int)).toNat = b := by
    rw [BitVec.ofInt_natCast, BitVec.toNat_ofNat]; exact Nat.mod_eq_of_lt (by omega)
  show IntKind.i64.wrap ((BitVec.ofInt 64 (a : Int) ||| BitVec.ofInt 64 (b : Int)).toNat : Int) = _
  rw [BitVec.toNat_or, h1, h2, IntKind.wrap_i64]
  omega
theorem pow_small {k : Nat} (h : k < 7) : 2 ^ k < 128 := by
  have : 2 ^ k < 2 ^ 7 := Nat.pow_lt_pow_right (by omega) h
  omega
theorem or_pow (a k : Nat) (ha : a < 128) (hk : k < 7) : bits .or .i64 (a : Int) (wrap64 (2 ^ k)) = ((a ||| 2 ^ k : Nat) : Int) := by
  have h := pow_small hk
  have e : ((2 ^ k : Nat) : Int) = (2 : Int) ^ k := by push_cast; rfl
  have e2 : ∀ p : Nat, p < 128 → wrap64 (p : Int) = p := fun p hp => by unfold wrap64; omega
  rw [← or_small a (2 ^ k) ha h, ← e, e2 _ h]
/-- Of the k days from f on: how many have weekday m and are given (b) or not. -/
def fgN (xs : List Int) (f : Int) (b : Bool) (m : Int) : Nat → Nat
  | 0 => 0
  | k + 1 => if (f + k) % 7 = m ∧ hasB xs (f + k) = b then fgN xs f b m k + 1 else fgN xs f b m k
theorem fgN_yes {xs : List Int} {f : Int} {b : Bool} {m : Int} {k : Nat} (h : (f + k) % 7 = m) (h' : hasB xs (f + k) = b) : fgN xs f b m (k + 1) = fgN xs f b m k + 1 := by rw [fgN, if_pos ⟨h, h'⟩]
theorem fgN_off {xs : List Int} {f : Int} {b : Bool} {m : Int} {k : Nat} (h : (f + k) % 7 ≠ m) : fgN xs f b m (k + 1) = fgN xs f b m k := by rw [fgN, if_neg (fun g => h g.1)]
theorem fgN_not {xs : List Int} {f : Int} {b : Bool} {m : Int} {k : Nat} (h : hasB xs (f + k) ≠ b) : fgN xs f b m (k + 1) = fgN xs f b m k := by rw [fgN, if_neg (fun g => h g.2)]
theorem fgN_le (xs : List Int) (f : Int) (b : Bool) (m : Int) (k : Nat) : fgN xs f b m k ≤ k := by
  induction k with
  | zero => simp [fgN]
  | succ k ih => rw [fgN]; split <;> omega
/-- The weekdays below m on which more days are given than not. -/
def fwN (xs : List Int) (f : Int) (n : Nat) : Nat → Nat
  | 0 => 0
  | m + 1 => if fgN xs f false m n < fgN xs f true m n then fwN xs f n m ||| 2 ^ m else fwN xs f n m
theorem fwN_yes {xs : List Int} {f : Int} {n m : Nat} (h : fgN xs f false m n < fgN xs f true m n) : fwN xs f n (m + 1) = fwN xs f n m ||| 2 ^ m := by rw [fwN, if_pos h]
theorem fwN_no {xs : List Int} {f : Int} {n m : Nat} (h : ¬ fgN xs f false m n < fgN xs f true m n) : fwN xs f n (m + 1) = fwN xs f n m := by rw [fwN, if_neg h]
theorem fwN_lt (xs : List Int) (f : Int) (n : Nat) : ∀ m, m ≤ 7 → fwN xs f n m < 128 := by
  intro m
  induction m with
  | zero => intro _; simp [fwN]
  | succ m ih =>
    intro hm
    rw [fwN]
    split
    · have : fwN xs f n m ||| 2 ^ m < 2 ^ 7 := Nat.or_lt_two_pow (by have := ih (by omega); omega) (by have := pow_small (k := m) (by omega); omega)
      omega
    · exact ih (by omega)
/-- The exceptions among k days from f on: added (b) or removed. -/
def fxL (xs : List Int) (f d : Int) (b : Bool) : Nat → List Int
  | 0 => []
  | k + 1 => if hasB xs (f + k) = b ∧ wdB d (f + k) = !b then fxL xs f d b k ++ [f + k] else fxL xs f d b k
theorem fxL_yes {xs : List Int} {f d : Int} {b : Bool} {k : Nat} (h : hasB xs (f + k) = b) (h' : wdB d (f + k) = !b) : fxL xs f d b (k + 1) = fxL xs f d b k ++ [f + k] := by rw [fxL, if_pos ⟨h, h'⟩]
theorem fxL_no {xs : List Int} {f d : Int} {b : Bool} {k : Nat} (h : hasB xs (f + k) ≠ b ∨ wdB d (f + k) = b) : fxL xs f d b (k + 1) = fxL xs f d b k := by
  rw [fxL, if_neg (fun g => ?_)]
  rcases h with h | h
  · exact h g.1
  · have := g.2; rw [h] at this; cases b <;> simp at this
theorem fxL_len (xs : List Int) (f d : Int) (b : Bool) (k : Nat) : (fxL xs f d b k).length ≤ k := by
  induction k with
  | zero => simp [fxL]
  | succ k ih =>
    rw [fxL]
    split
    · rw [List.length_append]; simp; omega
    · omega
/-- What is asked is fit. -/
def fcH (xs : List Int) (f t : Int) : Bool := inB f 0 3650 && (inB t 0 3650 && (inB (t - f) 0 200 && riseB xs f t))
def fcN (f t : Int) : Nat := (t + 1 - f).toNat
def fcD0 (xs : List Int) (f t : Int) : Nat := fwN xs f (fcN f t) 7
def fcX0 (xs : List Int) (f t : Int) (b : Bool) : List Int := fxL xs f (fcD0 xs f t) b (fcN f t)
def fcB (xs : List Int) (f t : Int) : Bool := fcH xs f t && calB f t (fcD0 xs f t) (fcX0 xs f t true) (fcX0 xs f t false)
def fcI (xs : List Int) (f t v : Int) : Int := if fcB xs f t = true then v else 0
def fcX (xs : List Int) (f t : Int) (b : Bool) : List Int := if fcB xs f t = true then fcX0 xs f t b else []
theorem fcH_ok {xs : List Int} {f t : Int} (h : fcH xs f t = true) : inB f 0 3650 = true ∧ inB t 0 3650 = true ∧ inB (t - f) 0 200 = true ∧ riseB xs f t = true := by
  unfold fcH at h
  simp at h
  exact ⟨h.1, h.2.1, h.2.2.1, h.2.2.2⟩
theorem fcB_h {xs : List Int} {f t : Int} (h : fcH xs f t = false) : fcB xs f t = false := by unfold fcB; rw [h]; rfl
theorem fcB_c {xs : List Int} {f t : Int} (h : calB f t (fcD0 xs f t) (fcX0 xs f t true) (fcX0 xs f t false) = false) : fcB xs f t = false := by unfold fcB; rw [h]; simp
theorem fcB_y {xs : List Int} {f t : Int} (h : fcH xs f t = true) (h' : calB f t (fcD0 xs f t) (fcX0 xs f t true) (fcX0 xs f t false) = true) : fcB xs f t = true := by unfold fcB; rw [h, h']; rfl
theorem fcI_n {xs : List Int} {f t v : Int} (h : fcB xs f t = false) : fcI xs f t v = 0 := by unfold fcI; rw [h]; rfl
theorem fcI_y {xs : List Int} {f t v : Int} (h : fcB xs f t = true) : fcI xs f t v = v := by unfold fcI; rw [h]; rfl
theorem fcX_n {xs : List Int} {f t : Int} {b : Bool} (h : fcB xs f t = false) : fcX xs f t b = [] := by unfold fcX; rw [h]; rfl
theorem fcX_y {xs : List Int} {f t : Int} {b : Bool} (h : fcB xs f t = true) : fcX xs f t b = fcX0 xs f t b := by unfold fcX; rw [h]; rfl
theorem fcX_len (xs : List Int) (f t : Int) (b : Bool) : (fcX xs f t b).length ≤ 1048576 := by
  unfold fcX
  split
  · rename_i h
    unfold fcB at h
    simp only [Bool.and_eq_true] at h
    obtain ⟨_, _, h3, _⟩ := fcH_ok h.1
    have h4 := inB_iff.1 h3
    have := fxL_len xs f (fcD0 xs f t) b (fcN f t)
    unfold fcX0
    unfold fcN at this ⊢
    omega
  · simp
end Go.Proofs.Ytpipegdjflniaaa
