/- Marks of slices of strings that are held. -/
import Derived.Test.YtpipegdjflniaaaDoorMrn
namespace Go.Proofs.YtpipegdjflniaaaDoor
open Go.ChangeShapes Go.WideShapes Go.ChangeAt Go.RowKit Go.PlainAid
set_option linter.unusedVariables false
set_option linter.unusedSimpArgs false

set_option maxRecDepth 100000 in
set_option maxHeartbeats 2000000 in
theorem heldStringS_any (A : Option Addr) (c n K : Nat) (w : World) (h : StrsIn w (Zone.below w.heap.size) A (marksS K n)) (hn : n ≤ 1048576) (h0 : 0 < K) (hK : K ≤ 1048576 * 1048576 - 1048576) :
    Calls Tryd.prog 21 #[.slice A n c, .int .i64 (K : Nat)] w fun e w' => e = .returned (.int .i64 ((K + n : Nat) : Int)) ∧ Below w.heap.size w w' := by
  have HX := Lib.hid h
  clear h
  go_enter Tryd.func21, Tryd.ntmps21
  go_wp2_with fail
  go_loopw [1, 5] (fun s i wr => ∃ j : Nat, j ≤ n ∧ i = .int .i64 j ∧ s = .int .i64 ((K + j : Nat) : Int) ∧ Below w.heap.size w wr) (fun _ i _ => n - (intOf i).toNat)
  case atStart => exact ⟨0, Nat.zero_le _, rfl, rfl, Below.refl _ _⟩
  case round =>
    obtain ⟨k, hk, rfl, rfl, hb⟩ := hrel
    have HB := Lib.hid hb
    clear hb
    by_cases hlt : k < n
    · obtain ⟨b, o, rfl, hbl, hc0⟩ := HX.out.get (k := k) (by rw [marksS_length]; exact hlt)
      have hc : w.cell? ⟨b, o + k, none⟩ = some (.string (mkT (K + k))) := by rw [← nth_marksS hlt]; exact hc0
      have HC := Lib.hid hc
      clear hc hc0
      obtain ⟨wo, rfl⟩ : ∃ wo : World, wo = wr := ⟨_, rfl⟩
      have hD : ∀ w', Below wo.heap.size wo w' → w'.cell? ⟨b, o + k, none⟩ = some (.string (mkT (K + k))) := fun w' h => ((bel_call HB.out h).cell (p := ⟨b, _, none⟩) hbl).trans HC.out
      have hik : (k : Int) < n := by omega
      have hk0 : 0 < K + k := by omega
      have hk1 : K + k ≤ 1099511627776 := by omega
      go_wp2_with fail
      go_region_held3 (fun w' => Below wo.heap.size wo w') (repeat' first | assumption | exact Nat.le_refl _ | exact Below.refl _ _ | (refine bel_drew ?_) | (refine bel_alloc ?_ _) | (refine bel_set ?_ ?_ _))
        (first
          | (go_at_call 39; refine (markText_any (K + k) _ hk0 hk1).mono ?_; rintro e w5 ⟨rfl, hb5⟩; have hB5 := bel_call ‹Below wo.heap.size wo _› hb5; clear hb5))
      all_goals
        have HB5 := Lib.hid (bel_call HB.out hB5)
        clear hD hB5
        go_wp2_with fail
        go_roundw
        case rel => exact ⟨k + 1, by omega, by go_num, by go_num, HB5.out⟩
        case measure => simp [intOf]; omega
    · obtain rfl : k = n := by omega
      go_wp2_with fail
      go_ret
      exact ⟨rfl, HB.out⟩
end Go.Proofs.YtpipegdjflniaaaDoor
