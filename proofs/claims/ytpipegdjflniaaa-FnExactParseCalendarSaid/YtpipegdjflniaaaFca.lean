/- The text of a calendar. -/
import Derived.Test.YtpipegdjflniaaaCalB
import Derived.Test.YtpipegdjflniaaaNumW
namespace Go.Proofs.Ytpipegdjflniaaa
open Go.ChangeShapes Go.WideShapes Go.ChangeAt Go.RowKit Go.PlainAid
set_option linter.unusedVariables false
set_option linter.unusedSimpArgs false

theorem num_day {n : Int} (h0 : 0 ≤ n) (h1 : n ≤ 3650) : (bs (num n)).size ≤ 4 := by
  rw [bs_size]
  unfold num
  rw [if_neg (by omega)]
  exact dec_length _ 4 (by omega) (by omega)
/-- The letter of a weekday. -/
def wkC (k : Nat) : UInt8 := #[109, 116, 119, 116, 102, 115, 115].getD k 0
theorem wk_ext : ∀ k : Fin 7, (⟨#[109, 116, 119, 116, 102, 115, 115]⟩ : ByteArray).extract k.1 (k.1 + 1) = ⟨#[wkC k.1]⟩ := by decide +kernel
/-- The word of a weekday. -/
def dyC (d : Int) (k : Nat) : UInt8 := if wdB d k = true then wkC k else 46
def dyT (d : Int) (s : ByteArray) : Nat → ByteArray
  | 0 => s
  | k + 1 => dyT d s k ++ ⟨#[dyC d k]⟩
theorem dyT_size (d : Int) (s : ByteArray) (k : Nat) : (dyT d s k).size = s.size + k := by
  induction k with
  | zero => rfl
  | succ k ih => rw [dyT, ByteArray.size_append, ih]; rfl
/-- Days, each behind a word. -/
def dlT (p : ByteArray) (xs : List Int) (s : ByteArray) : Nat → ByteArray
  | 0 => s
  | k + 1 => dlT p xs s k ++ p ++ bs (num (nth xs k))
theorem dlT_succ (p : ByteArray) (xs : List Int) (s : ByteArray) (k : Nat) : dlT p xs s k ++ p ++ bs (num (nth xs k)) = dlT p xs s (k + 1) := rfl
theorem dlT_succ' (p : ByteArray) (xs : List Int) (s : ByteArray) (k : Nat) : dlT p xs s k ++ (p ++ bs (num (nth xs k))) = dlT p xs s (k + 1) := by rw [← dlT_succ, ByteArray.append_assoc]
theorem dlT_size {p : ByteArray} {xs : List Int} {s : ByteArray} (hp : p.size = 2) (h : ∀ k, k < xs.length → 0 ≤ nth xs k ∧ nth xs k ≤ 3650) : ∀ k, k ≤ xs.length → s.size ≤ (dlT p xs s k).size ∧ (dlT p xs s k).size ≤ s.size + 6 * k := by
  intro k
  induction k with
  | zero => intro _; exact ⟨Nat.le_refl _, Nat.le_refl _⟩
  | succ k ih =>
    intro hk
    have h1 := ih (by omega)
    have h2 := h k (by omega)
    have h3 := num_day h2.1 h2.2
    rw [dlT, ByteArray.size_append, ByteArray.size_append, hp]
    omega
def hdT (f t : Int) : ByteArray := bs (num f) ++ ⟨#[45]⟩ ++ bs (num t) ++ ⟨#[32]⟩
/-- The text of a calendar. -/
def calT (f t d : Int) (us vs : List Int) : ByteArray := dlT ⟨#[32, 45]⟩ vs (dlT ⟨#[32, 43]⟩ us (dyT d (hdT f t) 7) us.length) vs.length
end Go.Proofs.Ytpipegdjflniaaa
