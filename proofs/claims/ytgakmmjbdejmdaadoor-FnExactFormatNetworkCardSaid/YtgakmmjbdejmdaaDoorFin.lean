/- FormatInt: strconv.Itoa against the reference's digits. -/
import Derived.Test.YtgakmmjbdejmdaaDoorMem
import Derived.Test.YtgakmmjbdejmdaaDoorNumW
import Derived.Test.YtgakmmjbdejmdaaDoorShelf
import Derived.Lib.AppendIntMem
namespace Go.Proofs.YtgakmmjbdejmdaaDoor
open Go.ChangeShapes Go.WideShapes Go.ChangeAt Go.RowKit
set_option linter.unusedVariables false

/-- The library's digits are ours. -/
theorem dec_lib (n : Nat) : Lib.decDigits n = dec n := by
  induction n using Nat.strongRecOn with
  | _ n ih =>
    rw [Lib.decDigits]
    split
    · rename_i h
      rw [dec_lt n h]
      rfl
    · rename_i h
      rw [dec_ge n h, ih (n / 10) (by omega)]
      rfl
theorem itoa_num (n : Int) : Lib.itoa n = num n := by
  unfold Lib.itoa num
  split
  · rename_i h
    rw [dec_lib]
    congr 2
    omega
  · rw [dec_lib]
/-- The powers of ten stand in memory. -/
abbrev Pow10 (w : World) : Prop := Lib.TabBelow Tryd.prog w.heap.size w "internal/strconv.uint64pow10" .u64 Lib.pow10Tab
theorem Pow10.call {w w' : World} (h : Pow10 w) (hb : Below w.heap.size w w') : Pow10 w' := fun w2 h2 => h w2 (hb.trans (h2.mono hb.size))
theorem itoa_any (n : Int) (w : World) (h0 : -9223372036854775808 ≤ n) (h1 : n ≤ 9223372036854775807) (HT : Pow10 w) :
    Calls Tryd.prog 41 #[.int .i64 n] w fun e w' => e = .returned (.string (bs (num n))) ∧ Below w.heap.size w w' :=
  (Tryd.strconv_Itoa n h0 h1 w HT.here).mono fun e w' ⟨he, k, os, hw⟩ => ⟨by rw [he, itoa_num]; rfl, by rw [hw]; exact Lib.below_grow _ _ (Nat.le_refl _) _ _⟩

/-- The answer of FormatInt. -/
def fmB (n : Int) : Bool := inB n (-999999) 999999
def fmS (n : Int) : ByteArray := if fmB n = true then bs (num n) else ⟨#[]⟩
theorem fmS_yes {n : Int} (h : fmB n = true) : fmS n = bs (num n) := by unfold fmS; rw [if_pos h]
theorem fmS_no {n : Int} (h : fmB n = false) : fmS n = ⟨#[]⟩ := by unfold fmS; rw [h]; rfl
theorem retSB {a b : ByteArray} {p q : Bool} (h : a = b) (h' : p = q) : Ending.returned (.tuple #[.string a, .bool p]) = .returned (.tuple #[.string b, .bool q]) := by rw [h, h']
theorem specFormatInt_any (n : Int) (w : World) :
    Calls Tryd.prog 11 #[.int .i64 n] w fun e w' => e = .returned (.tuple #[.string (fmS n), .bool (fmB n)]) ∧ Below w.heap.size w w' := by
  cases h : fmB n
  · have HS := Lib.hid (And.intro (fmS_no h) h)
    have hb : inB n (-999999) 999999 = false := h
    go_enter Tryd.func11, Tryd.ntmps11
    go_wp2_with (go_at_call 39; refine (l1In_any _ _ _ _).mono ?_; rintro e w1 ⟨rfl, rfl⟩; rw [hb])
    go_ret2
    exact ⟨retSB HS.out.1.symm rfl, Below.refl _ _⟩
  · have HS := Lib.hid (And.intro (fmS_yes h) h)
    have hb : inB n (-999999) 999999 = true := h
    have h2 := inB_iff.mp hb
    go_enter Tryd.func11, Tryd.ntmps11
    go_wp2_with (first
      | (go_at_call 39; refine (l1In_any _ _ _ _).mono ?_; rintro e w1 ⟨rfl, rfl⟩; rw [hb])
      | (go_at_call 40; refine (l1Num_any _ _ (by omega) (by omega)).mono ?_; rintro e w1 ⟨rfl, q, rfl⟩))
    go_ret2
    exact ⟨retSB HS.out.1.symm rfl, bel_drewN (Below.refl _ _) _⟩
theorem implFormatInt_any (n : Int) (w : World) (HT : Pow10 w) :
    Calls Tryd.prog 12 #[.int .i64 n] w fun e w' => e = .returned (.tuple #[.string (fmS n), .bool (fmB n)]) ∧ Below w.heap.size w w' := by
  have H1 := Lib.hid HT
  clear HT
  by_cases h1 : n < -999999
  · have HS := Lib.hid (show fmB n = false from inB_no (by omega))
    go_enter Tryd.func12, Tryd.ntmps12
    go_wp2
    go_ret2
    exact ⟨retSB (fmS_no HS.out).symm HS.out.symm, Below.refl _ _⟩
  by_cases h2 : 999999 < n
  · have HS := Lib.hid (show fmB n = false from inB_no (by omega))
    go_enter Tryd.func12, Tryd.ntmps12
    go_wp2
    go_ret2
    exact ⟨retSB (fmS_no HS.out).symm HS.out.symm, Below.refl _ _⟩
  have HS := Lib.hid (show fmB n = true from inB_yes (by omega) (by omega))
  go_enter Tryd.func12, Tryd.ntmps12
  go_wp2_with (go_at_call 41; refine (itoa_any _ _ (by omega) (by omega) H1.out).mono ?_; rintro e w1 ⟨rfl, hb1⟩)
  go_ret2
  exact ⟨retSB (fmS_yes HS.out).symm HS.out.symm, hb1⟩
theorem fnFormatInt_walk (n : Int) (wn : (Lit.int .i64 n).wf = true) (w : World) (HT : Pow10 w) :
    Calls Tryd.prog 3 #[.int .i64 n] w fun e w' => e = .returned (.bool true) ∧ Below w.heap.size w w' := by
  have H1 := Lib.hid HT
  clear HT
  go_enter Tryd.func3, Tryd.ntmps3
  go_wp2_with fail
  refine (specFormatInt_any _ _).mono ?_
  rintro e w1 ⟨rfl, hb1⟩
  have H2 := Lib.hid (H1.out.call hb1)
  have HB := Lib.hid hb1
  clear hb1
  go_wp2_with fail
  refine (implFormatInt_any _ _ H2.out).mono ?_
  rintro e w2 ⟨rfl, hb2⟩
  have HB2 := Lib.hid (bel_call HB.out hb2)
  clear hb2
  go_wp2
  go_ret
  exact ⟨rfl, HB2.out⟩
end Go.Proofs.YtgakmmjbdejmdaaDoor
