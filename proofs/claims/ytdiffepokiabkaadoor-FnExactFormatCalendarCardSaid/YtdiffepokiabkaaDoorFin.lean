/- FormatInt: strconv.Itoa against the reference's digits. -/
import Derived.Test.YtdiffepokiabkaaDoorMem
import Derived.Test.YtdiffepokiabkaaDoorNumW
import Derived.Test.YtdiffepokiabkaaDoorShelf
import Derived.Lib.AppendIntMem
namespace Go.Proofs.YtdiffepokiabkaaDoor
open Go.ChangeShapes Go.WideShapes Go.ChangeAt Go.RowKit
set_option linter.unusedVariables false

/-- The library's digits are ours. -/
theorem dec_lib (n : Nat) : Lib.decDigits n = dec n := by
  induction n using Nat.strongRecOn with
  | _ n ih =>
    rw [Lib.decDigits]
    split
    · rename_i h
      rw [dec_lt n h]
      rfl
    · rename_i h
      rw [dec_ge n h, ih (n / 10) (by omega)]
      rfl
theorem itoa_num (n : Int) : Lib.itoa n = num n := by
  unfold Lib.itoa num
  split
  · rename_i h
    rw [dec_lib]
    congr 2
    omega
  · rw [dec_lib]
/-- The powers of ten stand in memory. -/
abbrev Pow10 (w : World) : Prop := Lib.TabBelow Tryd.prog w.heap.size w "internal/strconv.uint64pow10" .u64 Lib.pow10Tab
theorem Pow10.call {w w' : World} (h : Pow10 w) (hb : Below w.heap.size w w') : Pow10 w' := fun w2 h2 => h w2 (hb.trans (h2.mono hb.size))
theorem itoa_any (n : Int) (w : World) (h0 : -9223372036854775808 ≤ n) (h1 : n ≤ 9223372036854775807) (HT : Pow10 w) :
    Calls Tryd.prog 79 #[.int .i64 n] w fun e w' => e = .returned (.string (bs (num n))) ∧ Below w.heap.size w w' :=
  (Tryd.strconv_Itoa n h0 h1 w HT.here).mono fun e w' ⟨he, k, os, hw⟩ => ⟨by rw [he, itoa_num]; rfl, by rw [hw]; exact Lib.below_grow _ _ (Nat.le_refl _) _ _⟩

/-- The answer of FormatInt. -/
def fmB (n : Int) : Bool := inB n (-999999) 999999
def fmS (n : Int) : ByteArray := if fmB n = true then bs (num n) else ⟨#[]⟩
theorem fmS_yes {n : Int} (h : fmB n = true) : fmS n = bs (num n) := by unfold fmS; rw [if_pos h]
theorem fmS_no {n : Int} (h : fmB n = false) : fmS n = ⟨#[]⟩ := by unfold fmS; rw [h]; rfl
theorem retSB {a b : ByteArray} {p q : Bool} (h : a = b) (h' : p = q) : Ending.returned (.tuple #[.string a, .bool p]) = .returned (.tuple #[.string b, .bool q]) := by rw [h, h']
end Go.Proofs.YtdiffepokiabkaaDoor
