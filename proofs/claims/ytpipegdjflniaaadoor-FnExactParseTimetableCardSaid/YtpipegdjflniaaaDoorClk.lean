/- Contracts of the functions that write a time of day as text. -/
import Derived.Test.YtpipegdjflniaaaDoorRows
import Derived.WalkKit
import Derived.ProofKit
import Derived.WalkSpells
import Derived.WalkLawsBesides
import Derived.Below
import Derived.Outline
import Derived.Deep.QuietTactic
import Derived.BigQuiet
import Derived.Lib.Hide
import Derived.Handy
namespace Go.Proofs.YtpipegdjflniaaaDoor
open Go.ChangeShapes Go.WideShapes Go.ChangeAt Go.RowKit
set_option linter.unusedVariables false

/-- Two digits. -/
def two (n : Nat) : ByteArray := ⟨#[UInt8.ofNat (48 + n / 10), UInt8.ofNat (48 + n % 10)]⟩

theorem dig_exC : ∀ d : Fin 10, (⟨#[48, 49, 50, 51, 52, 53, 54, 55, 56, 57]⟩ : ByteArray).extract d.1 (d.1 + 1) = ⟨#[UInt8.ofNat (48 + d.1)]⟩ := by decide +kernel

theorem two_ex (n : Int) (h0 : 0 ≤ n) (h1 : n ≤ 99) :
    (⟨#[48, 49, 50, 51, 52, 53, 54, 55, 56, 57]⟩ : ByteArray).extract (n / 10).toNat (n / 10 + 1).toNat ++ (⟨#[48, 49, 50, 51, 52, 53, 54, 55, 56, 57]⟩ : ByteArray).extract (n % 10).toNat (n % 10 + 1).toNat = two n.toNat := by
  obtain ⟨m, rfl⟩ := Int.eq_ofNat_of_zero_le h0
  have e1 : ((m : Int) / 10).toNat = m / 10 := by omega
  have e2 : ((m : Int) / 10 + 1).toNat = m / 10 + 1 := by omega
  have e3 : ((m : Int) % 10).toNat = m % 10 := by omega
  have e4 : ((m : Int) % 10 + 1).toNat = m % 10 + 1 := by omega
  rw [e1, e2, e3, e4, Int.toNat_natCast, dig_exC ⟨m / 10, by omega⟩, dig_exC ⟨m % 10, by omega⟩]
  rfl

theorem l4Two_any (n : Int) (w : World) (h0 : 0 ≤ n) (h1 : n ≤ 99) :
    Calls Tryd.prog 60 #[.int .i64 n] w fun e w' => e = .returned (.string (two n.toNat)) ∧ ∃ k, w' = w.drewN k := by
  have H := Lib.hid (two_ex n h0 h1)
  go_enter Tryd.func60, Tryd.ntmps60
  go_wp2
  go_quiet (fail)
  go_wp2
  refine bodyPost_ret (results_tmp rfl _ _ _) rfl ⟨?_, nq, rfl⟩
  exact congrArg (fun s => Ending.returned (Value.string s)) H.out

theorem withinC_any (a b c : Int) (w : World) :
    Calls Tryd.prog 82 #[.int .i64 a, .int .i64 b, .int .i64 c] w fun e w' => e = .returned (.bool (decide (b ≤ a ∧ a ≤ c))) ∧ w = w' := by
  by_cases h1 : b ≤ a
  all_goals
    go_enter Tryd.func82, Tryd.ntmps82
    go_wp2
    go_ret
    simp [h1]
  all_goals omega

theorem two_size (n : Nat) : (two n).size = 2 := rfl

/-- hh:mm -/
def clk (t : Nat) : ByteArray := two (t / 60) ++ ⟨#[58]⟩ ++ two (t % 60)

theorem l4Text_any (t : Int) (w : World) (h0 : 0 ≤ t) (h1 : t ≤ 1799) :
    Calls Tryd.prog 47 #[.int .i64 t] w fun e w' => e = .returned (.string (clk t.toNat)) ∧ ∃ k, w' = w.drewN k := by
  have hs := two_size
  go_enter Tryd.func47, Tryd.ntmps47
  go_wp2_with fail
  refine (l4Two_any _ _ (by omega) (by omega)).mono ?_
  rintro e w' ⟨rfl, k, rfl⟩
  go_wp2_with fail
  refine (l4Two_any _ _ (by omega) (by omega)).mono ?_
  rintro e w' ⟨rfl, k2, rfl⟩
  go_wp2_with fail
  refine bodyPost_ret (results_tmp rfl _ _ _) rfl ⟨?_, _, rfl⟩
  have e1 : (t / 60).toNat = t.toNat / 60 := by omega
  have e2 : (t % 60).toNat = t.toNat % 60 := by omega
  show Ending.returned (Value.string (two (t / 60).toNat ++ ⟨#[58]⟩ ++ two (t % 60).toNat)) = _
  rw [e1, e2]
  rfl

theorem strTwo (n : Int) (h0 : 0 ≤ n) (h1 : n ≤ 99) : Value.string (strOfNums [48 + n / 10, 48 + n % 10]) = Value.string (two n.toNat) := by
  obtain ⟨m, rfl⟩ := Int.eq_ofNat_of_zero_le h0
  have e1 : (48 + (m : Int) / 10).toNat = 48 + m / 10 := by omega
  have e2 : (48 + (m : Int) % 10).toNat = 48 + m % 10 := by omega
  simp [strOfNums, two, e1, e2]

theorem below_drewNC {B : Nat} {a w : World} (h : Below B a w) (n : Nat) : Below B a (w.drewN n) := ⟨h.os, h.tape, h.output, h.size, h.block⟩

end Go.Proofs.YtpipegdjflniaaaDoor
