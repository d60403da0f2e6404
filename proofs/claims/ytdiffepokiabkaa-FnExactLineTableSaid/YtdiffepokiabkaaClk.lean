/- Contracts of the functions that write a time of day as text. -/
import Derived.Test.YtdiffepokiabkaaRows
import Derived.WalkKit
import Derived.ProofKit
import Derived.WalkSpells
import Derived.WalkLawsBesides
import Derived.Below
import Derived.Outline
import Derived.Deep.QuietTactic
import Derived.BigQuiet
import Derived.Lib.Hide
import Derived.Handy
namespace Go.Proofs.Ytdiffepokiabkaa
open Go.ChangeShapes Go.WideShapes Go.ChangeAt Go.RowKit
set_option linter.unusedVariables false

/-- Two digits. -/
def two (n : Nat) : ByteArray := ⟨#[UInt8.ofNat (48 + n / 10), UInt8.ofNat (48 + n % 10)]⟩

theorem dig_exC : ∀ d : Fin 10, (⟨#[48, 49, 50, 51, 52, 53, 54, 55, 56, 57]⟩ : ByteArray).extract d.1 (d.1 + 1) = ⟨#[UInt8.ofNat (48 + d.1)]⟩ := by decide +kernel

theorem two_ex (n : Int) (h0 : 0 ≤ n) (h1 : n ≤ 99) :
    (⟨#[48, 49, 50, 51, 52, 53, 54, 55, 56, 57]⟩ : ByteArray).extract (n / 10).toNat (n / 10 + 1).toNat ++ (⟨#[48, 49, 50, 51, 52, 53, 54, 55, 56, 57]⟩ : ByteArray).extract (n % 10).toNat (n % 10 + 1).toNat = two n.toNat := by
  obtain ⟨m, rfl⟩ := Int.eq_ofNat_of_zero_le h0
  have e1 : ((m : Int) / 10).toNat = m / 10 := by omega
  have e2 : ((m : Int) / 10 + 1).toNat = m / 10 + 1 := by omega
  have e3 : ((m : Int) % 10).toNat = m % 10 := by omega
  have e4 : ((m : Int) % 10 + 1).toNat = m % 10 + 1 := by omega
  rw [e1, e2, e3, e4, Int.toNat_natCast, dig_exC ⟨m / 10, by omega⟩, dig_exC ⟨m % 10, by omega⟩]
  rfl

theorem l4Two_any (n : Int) (w : World) (h0 : 0 ≤ n) (h1 : n ≤ 99) :
    Calls Try.prog 61 #[.int .i64 n] w fun e w' => e = .returned (.string (two n.toNat)) ∧ ∃ k, w' = w.drewN k := by
  have H := Lib.hid (two_ex n h0 h1)
  go_enter Try.func61, Try.ntmps61
  go_wp2
  go_quiet (fail)
  go_wp2
  refine bodyPost_ret (results_tmp rfl _ _ _) rfl ⟨?_, nq, rfl⟩
  exact congrArg (fun s => Ending.returned (Value.string s)) H.out

theorem withinC_any (a b c : Int) (w : World) :
    Calls Try.prog 53 #[.int .i64 a, .int .i64 b, .int .i64 c] w fun e w' => e = .returned (.bool (decide (b ≤ a ∧ a ≤ c))) ∧ w = w' := by
  by_cases h1 : b ≤ a
  all_goals
    go_enter Try.func53, Try.ntmps53
    go_wp2
    go_ret
    simp [h1]
  all_goals omega

theorem two_size (n : Nat) : (two n).size = 2 := rfl

/-- hh:mm -/
def clk (t : Nat) : ByteArray := two (t / 60) ++ ⟨#[58]⟩ ++ two (t % 60)

theorem l4Text_any (t : Int) (w : World) (h0 : 0 ≤ t) (h1 : t ≤ 1799) :
    Calls Try.prog 34 #[.int .i64 t] w fun e w' => e = .returned (.string (clk t.toNat)) ∧ ∃ k, w' = w.drewN k := by
  have hs := two_size
  go_enter Try.func34, Try.ntmps34
  go_wp2_with fail
  refine (l4Two_any _ _ (by omega) (by omega)).mono ?_
  rintro e w' ⟨rfl, k, rfl⟩
  go_wp2_with fail
  refine (l4Two_any _ _ (by omega) (by omega)).mono ?_
  rintro e w' ⟨rfl, k2, rfl⟩
  go_wp2_with fail
  refine bodyPost_ret (results_tmp rfl _ _ _) rfl ⟨?_, _, rfl⟩
  have e1 : (t / 60).toNat = t.toNat / 60 := by omega
  have e2 : (t % 60).toNat = t.toNat % 60 := by omega
  show Ending.returned (Value.string (two (t / 60).toNat ++ ⟨#[58]⟩ ++ two (t % 60).toNat)) = _
  rw [e1, e2]
  rfl

theorem strTwo (n : Int) (h0 : 0 ≤ n) (h1 : n ≤ 99) : Value.string (strOfNums [48 + n / 10, 48 + n % 10]) = Value.string (two n.toNat) := by
  obtain ⟨m, rfl⟩ := Int.eq_ofNat_of_zero_le h0
  have e1 : (48 + (m : Int) / 10).toNat = 48 + m / 10 := by omega
  have e2 : (48 + (m : Int) % 10).toNat = 48 + m % 10 := by omega
  simp [strOfNums, two, e1, e2]

theorem clockText1_any (n : Int) (w : World) (h0 : 0 ≤ n) (h1 : n ≤ 99) :
    Calls Try.prog 72 #[.int .i64 n] w fun e w' => e = .returned (.string (two n.toNat)) ∧ Below w.heap.size w w' := by
  have hcv := run_convert_bytes_arg (P := Try.prog) (w.alloc (.cells #[.int .u8 (48 + n / 10), .int .u8 (48 + n % 10)] 5)) 98 5 Try.underlying98 Try.underlying5 w.heap.size 0 2 2 [48 + n / 10, 48 + n % 10] rfl
    (fun i hi => by
      rw [World.cell?_alloc_mark]
      match i, hi with
      | 0, _ => rfl
      | 1, _ => rfl) 9 Try.underlying9
  rw [strTwo n h0 h1] at hcv
  go_enter Try.func72, Try.ntmps72
  go_wp2
  go_ret
  exact ⟨rfl, (Below.refl _ _).alloc (Nat.le_refl _) _⟩

theorem clockText_any (t : Int) (w : World) (h0 : 0 ≤ t) (h1 : t ≤ 1799) :
    Calls Try.prog 41 #[.int .i64 t] w fun e w' => e = .returned (.string (clk t.toNat)) ∧ Below w.heap.size w w' := by
  have hs := two_size
  go_enter Try.func41, Try.ntmps41
  go_wp2_with fail
  refine (clockText1_any _ _ (by omega) (by omega)).mono ?_
  rintro e w1 ⟨rfl, hb1⟩
  go_wp2_with fail
  refine (clockText1_any _ _ (by omega) (by omega)).mono ?_
  rintro e w2 ⟨rfl, hb2⟩
  go_wp2_with fail
  refine bodyPost_ret (results_tmp rfl _ _ _) rfl ⟨?_, hb1.trans (hb2.mono hb1.size)⟩
  have e1 : (t / 60).toNat = t.toNat / 60 := by omega
  have e2 : (t % 60).toNat = t.toNat % 60 := by omega
  show Ending.returned (Value.string (two (t / 60).toNat ++ ⟨#[58]⟩ ++ two (t % 60).toNat)) = _
  rw [e1, e2]
  rfl

theorem below_drewNC {B : Nat} {a w : World} (h : Below B a w) (n : Nat) : Below B a (w.drewN n) := ⟨h.os, h.tape, h.output, h.size, h.block⟩

end Go.Proofs.Ytdiffepokiabkaa
