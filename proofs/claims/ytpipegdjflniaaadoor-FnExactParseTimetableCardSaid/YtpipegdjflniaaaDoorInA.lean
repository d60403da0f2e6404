/- Contracts of the laws' functions on lists of integers: size, copy, comparison. -/
import Derived.Test.YtpipegdjflniaaaDoorMem
namespace Go.Proofs.YtpipegdjflniaaaDoor
open Go.ChangeShapes Go.WideShapes Go.ChangeAt Go.RowKit Go.PlainAid
set_option linter.unusedVariables false

theorem Tryd.infoI : (Tryd.prog.info? 3).map (fun i => (i.zero, i.size, i.bytes)) = some (some (.int .i64 0), 1, 8) := by kernel_rfl

/-- What szIntS leaves. -/
def szI (n : Nat) (left : Int) : Int := if left - n < 0 then -1 else left - n
theorem szI_eq (n : Nat) (left : Int) : szI n left = if left - n < 0 then -1 else left - n := rfl
/-- A slice in new memory that reads as xs. -/
def NewInts (xs : List Int) (w : World) (e : Ending) (w' : World) : Prop :=
  ∃ g, e = .returned (.slice (some ⟨g, 0, none⟩) xs.length xs.length) ∧ w.heap.size ≤ g ∧ g < w'.heap.size ∧ IntsAt w' w'.heap.size (some ⟨g, 0, none⟩) xs ∧ Below w.heap.size w w'

set_option maxHeartbeats 400000 in
theorem eqIntS_same (A A' : Option Addr) (c c' : Nat) (xs : List Int) (w : World) (h : IntsAt w w.heap.size A xs) (h' : IntsAt w w.heap.size A' xs) (hn : xs.length ≤ 1048576) :
    Calls Tryd.prog 59 #[.slice A xs.length c, .slice A' xs.length c'] w fun e w' => e = .returned (.bool true) ∧ ∃ q, w' = w.drewN q := by
  have HX := Lib.hid h
  have HY := Lib.hid h'
  clear h h'
  go_enter Tryd.func59, Tryd.ntmps59
  go_wp2
  go_loopw [5] (fun i wr => ∃ k : Nat, k ≤ xs.length ∧ i = .int .i64 k ∧ ∃ q, wr = w.drewN q) (fun i _ => xs.length - (intOf i).toNat)
  case atStart => exact ⟨0, Nat.zero_le _, rfl, 0, rfl⟩
  case round =>
    obtain ⟨k, hk, rfl, q, rfl⟩ := hrel
    by_cases hlt : k < xs.length
    · obtain ⟨b, o, rfl, hbl, hc⟩ := HX.out.get hlt
      obtain ⟨b', o', rfl, hbl', hc'⟩ := HY.out.get hlt
      have hi1 : (k : Int) < (xs.length : Int) := by omega
      go_wp2
      go_quiet (fail)
      go_wp2
      go_roundw
      case rel => exact ⟨k + 1, by omega, by go_num, _, rfl⟩
      case measure => simp [intOf]; omega
    · obtain rfl : k = xs.length := by omega
      go_wp2
      go_ret
      exact ⟨rfl, q, rfl⟩
end Go.Proofs.YtpipegdjflniaaaDoor
