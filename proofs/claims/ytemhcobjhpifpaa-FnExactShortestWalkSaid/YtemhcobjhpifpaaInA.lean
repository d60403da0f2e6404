/- Contracts of the laws' functions on lists of integers: size, copy, comparison. -/
import Derived.Test.YtemhcobjhpifpaaMem
namespace Go.Proofs.Ytemhcobjhpifpaa
open Go.ChangeShapes Go.WideShapes Go.ChangeAt Go.RowKit Go.PlainAid
set_option linter.unusedVariables false

theorem Try.infoI : (Try.prog.info? 3).map (fun i => (i.zero, i.size, i.bytes)) = some (some (.int .i64 0), 1, 8) := by kernel_rfl

/-- What szIntS leaves. -/
def szI (n : Nat) (left : Int) : Int := if left - n < 0 then -1 else left - n
theorem szI_eq (n : Nat) (left : Int) : szI n left = if left - n < 0 then -1 else left - n := rfl
theorem szIntS_any (A : Option Addr) (n c : Nat) (left : Int) (w : World) (h0 : 0 ≤ left) (h1 : left ≤ 1048576) (hn : n ≤ 9223372036854775807) :
    Calls Try.prog 46 #[.slice A n c, .int .i64 left] w fun e w' => e = .returned (.int .i64 (szI n left)) ∧ w = w' := by
  by_cases h : left - n < 0
  all_goals
    have H := Lib.hid (szI_eq n left)
    simp only [h, if_true, if_false] at H
    go_enter Try.func46, Try.ntmps46
    go_wp2
    go_ret
    exact ⟨retI H.out.symm, rfl⟩

/-- A slice in new memory that reads as xs. -/
def NewInts (xs : List Int) (w : World) (e : Ending) (w' : World) : Prop :=
  ∃ g, e = .returned (.slice (some ⟨g, 0, none⟩) xs.length xs.length) ∧ w.heap.size ≤ g ∧ g < w'.heap.size ∧ IntsAt w' w'.heap.size (some ⟨g, 0, none⟩) xs ∧ Below w.heap.size w w'

set_option maxHeartbeats 400000 in
theorem toIntS_any (A : Option Addr) (c : Nat) (xs : List Int) (w : World) (h : IntsAt w w.heap.size A xs) (hn : xs.length ≤ 1048576) :
    Calls Try.prog 50 #[.slice A xs.length c] w (NewInts xs w) := by
  obtain ⟨i0, hi, hz0, hz1, hz2⟩ := info_parts Try.infoI
  have hmk := fun W => run_make_n (P := Try.prog) 29 3 i0 _ Try.underlying29 hi hz0 xs.length 1 8 hz1 hz2 (by omega) (by omega) W
  have HX := Lib.hid h
  clear h
  go_enter Try.func50, Try.ntmps50
  go_wp2
  go_loopw [4] (fun i wr => ∃ k : Nat, k ≤ xs.length ∧ i = .int .i64 k ∧ Fill wr w.heap.size xs.length k (fun j => .int .i64 (nth xs j)) ∧ Below w.heap.size w wr) (fun i _ => xs.length - (intOf i).toNat)
  case atStart => exact ⟨0, Nat.zero_le _, rfl, Fill.made _ _ _ _ _, (Below.refl _ _).alloc (Nat.le_refl _) _⟩
  case round =>
    obtain ⟨k, hk, rfl, hf, hb⟩ := hrel
    have HF := Lib.hid hf
    have HB := Lib.hid hb
    by_cases hlt : k < xs.length
    · obtain ⟨b, o, rfl, hbl, hc⟩ := (HX.out.below hb).get hlt
      obtain ⟨v, hv⟩ := hf.there k (Nat.le_refl _) hlt
      have hfr := hf.free k
      clear hf hb
      go_wp2
      go_roundw
      case rel => exact ⟨k + 1, by omega, by go_num, HF.out.step hlt, HB.out.setCell (Nat.le_refl _) _⟩
      case measure => simp [intOf]; omega
    · obtain rfl : k = xs.length := by omega
      clear hf hb
      go_wp2
      go_ret
      exact ⟨_, rfl, Nat.le_refl _, HF.out.lt, IntsAt.of_fill HF.out rfl (Nat.le_refl _), HB.out⟩

set_option maxHeartbeats 400000 in
theorem eqIntS_same (A A' : Option Addr) (c c' : Nat) (xs : List Int) (w : World) (h : IntsAt w w.heap.size A xs) (h' : IntsAt w w.heap.size A' xs) (hn : xs.length ≤ 1048576) :
    Calls Try.prog 10 #[.slice A xs.length c, .slice A' xs.length c'] w fun e w' => e = .returned (.bool true) ∧ ∃ q, w' = w.drewN q := by
  have HX := Lib.hid h
  have HY := Lib.hid h'
  clear h h'
  go_enter Try.func10, Try.ntmps10
  go_wp2
  go_loopw [5] (fun i wr => ∃ k : Nat, k ≤ xs.length ∧ i = .int .i64 k ∧ ∃ q, wr = w.drewN q) (fun i _ => xs.length - (intOf i).toNat)
  case atStart => exact ⟨0, Nat.zero_le _, rfl, 0, rfl⟩
  case round =>
    obtain ⟨k, hk, rfl, q, rfl⟩ := hrel
    by_cases hlt : k < xs.length
    · obtain ⟨b, o, rfl, hbl, hc⟩ := HX.out.get hlt
      obtain ⟨b', o', rfl, hbl', hc'⟩ := HY.out.get hlt
      have hi1 : (k : Int) < (xs.length : Int) := by omega
      go_wp2
      go_quiet (fail)
      go_wp2
      go_roundw
      case rel => exact ⟨k + 1, by omega, by go_num, _, rfl⟩
      case measure => simp [intOf]; omega
    · obtain rfl : k = xs.length := by omega
      go_wp2
      go_ret
      exact ⟨rfl, q, rfl⟩
end Go.Proofs.Ytemhcobjhpifpaa
