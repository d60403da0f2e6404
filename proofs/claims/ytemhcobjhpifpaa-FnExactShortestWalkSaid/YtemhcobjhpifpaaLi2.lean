/- Is a line valid? The reference's checker. -/
import Derived.Test.YtemhcobjhpifpaaLiv
namespace Go.Proofs.Ytemhcobjhpifpaa
open Go.ChangeShapes Go.WideShapes Go.ChangeAt Go.RowKit Go.PlainAid
set_option linter.unusedVariables false

set_option maxRecDepth 100000 in
set_option maxHeartbeats 1000000 in
theorem l2Line_any (n : Nat) (y : LineD) (S R : Option Addr) (cs cr : Nat) (w : World) (hS : IntsIn w (Zone.below w.heap.size) S y.stops) (hR : IntsIn w (Zone.below w.heap.size) R y.runs)
    (hn : n ≤ 1048576) (hy : y.stops.length ≤ 1048576) (hr : y.runs.length ≤ 1048576) :
    Calls Try.prog 59 #[.agg #[.string y.name, .slice S y.stops.length cs, .slice R y.runs.length cr], .int .i64 n] w fun e w' => e = .returned (.bool (nameB y.name && lineB n y)) ∧ Below w.heap.size w w' := by
  have HS := Lib.hid hS
  have HR := Lib.hid hR
  clear hS hR
  cases hm : nameB y.name
  · go_enter Try.func59, Try.ntmps59
    go_wp2_with (first
      | (go_at_call 57; refine (l2Name_any _ _).mono ?_; rintro e w1 ⟨rfl, rfl⟩)
      | (go_at_call 20; refine (l1In_any _ _ _ _).mono ?_; rintro e w1 ⟨rfl, rfl⟩))
    go_ret
    exact ⟨rfl, by go_grown⟩
  by_cases hh : LineHd y
  · have HH := Lib.hid hh
    unfold LineHd at hh
    have hi : inB y.stops.length 2 6 = true := inB_yes (by omega) (by omega)
    have hq : (y.runs.length : Int) = y.stops.length - 1 := by omega
    go_enter Try.func59, Try.ntmps59
    go_wp2_with (first
      | (go_at_call 57; refine (l2Name_any _ _).mono ?_; rintro e w1 ⟨rfl, rfl⟩)
      | (go_at_call 20; refine (l1In_any _ _ _ _).mono ?_; rintro e w1 ⟨rfl, rfl⟩))
    have HL0 : Hid (Lin3 (w.alloc (.cells #[.string y.name, .slice S y.stops.length cs, .slice R y.runs.length cr] 72)) w.heap.size y S cs R cr) := Lib.hid ⟨by go_simp, by go_simp, by go_simp⟩
    have HB0 : Hid (Below w.heap.size w (w.alloc (.cells #[.string y.name, .slice S y.stops.length cs, .slice R y.runs.length cr] 72))) := Lib.hid (by go_grown)
    have hz0 : w.heap.size < (w.alloc (.cells #[.string y.name, .slice S y.stops.length cs, .slice R y.runs.length cr] 72)).heap.size := by simp
    have HS0 := Lib.hid (HS.out.call HB0.out)
    have HR0 := Lib.hid (HR.out.call HB0.out)
    generalize w.alloc (.cells #[.string y.name, .slice S y.stops.length cs, .slice R y.runs.length cr] 72) = WW at *
    clear hh HS HR
    go_loopw [5] (fun i wr => ∃ k : Nat, k ≤ y.stops.length ∧ i = .int .i64 k ∧ (∀ j, j < k → StopOk n y j) ∧ Below WW.heap.size WW wr) (fun i _ => y.stops.length - (intOf i).toNat)
    case atStart => exact ⟨0, Nat.zero_le _, rfl, fun j hj => by omega, Below.refl _ _⟩
    case round =>
      obtain ⟨k, hk, rfl, ha, hb⟩ := hrel
      have HA := Lib.hid ha
      have HB := Lib.hid hb
      have HLw := HL0.out.below hb (by omega)
      have hS1 := Lib.hid (HS0.out.call hb)
      have hR1 := Lib.hid (HR0.out.call hb)
      have hz := hb.size
      clear ha hb
      by_cases hlt : k < y.stops.length
      · obtain ⟨l0, l1, l2⟩ := HLw
        obtain ⟨b, o, rfl, hbl, hc⟩ := hS1.out.at.get hlt
        have hi1 : (k : Int) < (y.stops.length : Int) := by omega
        by_cases hg : StopOk n y k
        · have HG : Hid (∀ j, j < k + 1 → StopOk n y j) := Lib.hid (fun j hj => by
            by_cases e : j = k
            · subst e; exact hg
            · exact HA.out j (by omega))
          obtain ⟨hg1, hg2⟩ := hg
          go_wp2_with fail
          have HLw2 := Lib.hid (show Lin3 wr w.heap.size y (some ⟨b, o, none⟩) cs R cr from ⟨l0, l1, l2⟩)
          have hzz : w.heap.size < wr.heap.size := by omega
          have hC : ∀ w', Below wr.heap.size wr w' → Lin3 w' w.heap.size y (some ⟨b, o, none⟩) cs R cr := fun w' h => HLw2.out.below h hzz
          have hE : ∀ w', Below wr.heap.size wr w' → w'.cell? ⟨b, o + k, none⟩ = some (.int .i64 (nth y.stops k)) := fun w' h => (h.cell (p := ⟨b, o + k, none⟩) hbl).trans hc
          unfold Lin3 at hC
          have hw : IntKind.i64.wrap ((n : Int) - 1) = n - 1 := IntWalk.i64_in _ (by omega)
          have hg1' : inB (nth y.stops k) 0 (IntKind.i64.wrap ((n : Int) - 1)) = true := by rw [hw]; exact hg1
          clear l0 l1 l2 hc
          go_region_held3 (fun w' => Below wr.heap.size wr w') (repeat' first | assumption | exact Nat.le_refl _ | exact Below.refl _ _ | (refine bel_drew ?_) | (refine bel_alloc ?_ _) | (refine bel_set ?_ ?_ _))
            (first
              | (go_at_call 20; refine (l1In_any _ _ _ _).mono ?_; rintro e w1 ⟨rfl, rfl⟩)
              | (go_at_call 65; refine (l2Place_any _ _ _ _ _ _ _ (hS1.out.call ‹Below wr.heap.size wr _›) hy).mono ?_; rintro e w5 ⟨rfl, hb5⟩; have hB5 := bel_call ‹Below wr.heap.size wr _› hb5; clear hb5))
          all_goals
            have HB5 := Lib.hid (HB.out.trans (hB5.mono hz))
            clear hC hE hB5
            go_wp2_with fail
            go_roundw
            case rel => exact ⟨k + 1, by omega, by go_num, HG.out, HB5.out⟩
            case measure => simp [intOf]; omega
        · have H := Lib.hid (lineB_no (n := n) (x := y) (fun h => hg (h.2.1 k hlt)))
          have HX : Hid (inB (nth y.stops k) 0 (n - 1) = true → ¬ ixI y.stops (nth y.stops k) = k) := Lib.hid (fun h1 h2 => hg ⟨h1, h2⟩)
          clear hg
          cases hg1 : inB (nth y.stops k) 0 (n - 1)
          · have hw : IntKind.i64.wrap ((n : Int) - 1) = n - 1 := IntWalk.i64_in _ (by omega)
            have hg1' : inB (nth y.stops k) 0 (IntKind.i64.wrap ((n : Int) - 1)) = false := by rw [hw]; exact hg1
            go_wp2_with fail
            go_quiet ((go_at_call 20; exact quietS (l1In_any _ _ _ _)))
            go_wp2_with fail
            go_ret
            exact ⟨retB H.out.symm, HB0.out.trans ((bel_drewN HB.out _).mono HB0.out.size)⟩
          · have hg2 := HX.out hg1
            go_wp2_with fail
            have HLw2 := Lib.hid (show Lin3 wr w.heap.size y (some ⟨b, o, none⟩) cs R cr from ⟨l0, l1, l2⟩)
            have hzz : w.heap.size < wr.heap.size := by omega
            have hC : ∀ w', Below wr.heap.size wr w' → Lin3 w' w.heap.size y (some ⟨b, o, none⟩) cs R cr := fun w' h => HLw2.out.below h hzz
            have hE : ∀ w', Below wr.heap.size wr w' → w'.cell? ⟨b, o + k, none⟩ = some (.int .i64 (nth y.stops k)) := fun w' h => (h.cell (p := ⟨b, o + k, none⟩) hbl).trans hc
            unfold Lin3 at hC
            have hw : IntKind.i64.wrap ((n : Int) - 1) = n - 1 := IntWalk.i64_in _ (by omega)
            have hg1' : inB (nth y.stops k) 0 (IntKind.i64.wrap ((n : Int) - 1)) = true := by rw [hw]; exact hg1
            clear l0 l1 l2 hc
            go_region_held3 (fun w' => Below wr.heap.size wr w') (repeat' first | assumption | exact Nat.le_refl _ | exact Below.refl _ _ | (refine bel_drew ?_) | (refine bel_alloc ?_ _) | (refine bel_set ?_ ?_ _))
              (first
                | (go_at_call 20; refine (l1In_any _ _ _ _).mono ?_; rintro e w1 ⟨rfl, rfl⟩)
                | (go_at_call 65; refine (l2Place_any _ _ _ _ _ _ _ (hS1.out.call ‹Below wr.heap.size wr _›) hy).mono ?_; rintro e w5 ⟨rfl, hb5⟩; have hB5 := bel_call ‹Below wr.heap.size wr _› hb5; clear hb5))
            all_goals
              have HB5 := Lib.hid (HB.out.trans (hB5.mono hz))
              clear hC hE hB5
              go_wp2_with fail
              go_ret
              exact ⟨retB H.out.symm, HB0.out.trans (HB5.out.mono HB0.out.size)⟩
      · obtain rfl : k = y.stops.length := by omega
        obtain ⟨l0, l1, l2⟩ := HLw
        have hzz : w.heap.size < wr.heap.size := by omega
        have HLw2 := Lib.hid (show Lin3 wr w.heap.size y S cs R cr from ⟨l0, l1, l2⟩)
        go_wp2_with fail
        go_loopw [6] (fun i wz => ∃ k : Nat, k ≤ y.runs.length ∧ i = .int .i64 k ∧ (∀ j, j < k → RunOk y j) ∧ Dr wr wz) (fun i _ => y.runs.length - (intOf i).toNat)
        case atStart => exact ⟨0, Nat.zero_le _, rfl, fun j hj => by omega, Dr.refl _⟩
        case round =>
          obtain ⟨k, hk2, rfl, ha, q, rfl⟩ := hrel
          have HC := Lib.hid ha
          clear ha
          by_cases hlt : k < y.runs.length
          · obtain ⟨b, o, rfl, hbl, hc⟩ := hR1.out.at.get hlt
            have hi1 : (k : Int) < (y.runs.length : Int) := by omega
            cases hg : inB (nth y.runs k) 1 60
            · have H := Lib.hid (lineB_no (n := n) (x := y) (fun h => by have := h.2.2 k hlt; unfold RunOk at this; rw [hg] at this; cases this))
              go_wp2_with (go_at_call 20; refine (l1In_any _ _ _ _).mono ?_; rintro e w1 ⟨rfl, rfl⟩)
              go_ret
              exact ⟨retB H.out.symm, HB0.out.trans ((bel_drewN HB.out _).mono HB0.out.size)⟩
            · go_wp2_with (go_at_call 20; refine (l1In_any _ _ _ _).mono ?_; rintro e w1 ⟨rfl, rfl⟩)
              go_roundw
              case rel => exact ⟨k + 1, by omega, by go_num, fun j hj => by (by_cases e : j = k; (subst e; exact hg); exact HC.out j (by omega)), _, rfl⟩
              case measure => simp [intOf]; omega
          · obtain rfl : k = y.runs.length := by omega
            have H := Lib.hid (lineB_yes (n := n) (x := y) ⟨HH.out, HA.out, HC.out⟩)
            go_wp2_with fail
            go_ret
            exact ⟨retB H.out.symm, HB0.out.trans ((bel_drewN HB.out _).mono HB0.out.size)⟩
  · have H := Lib.hid (lineB_no (n := n) (x := y) (fun h => hh h.1))
    unfold LineHd at hh
    go_enter Try.func59, Try.ntmps59
    by_cases hi0 : 2 ≤ y.stops.length ∧ y.stops.length ≤ 6
    · have hi : inB y.stops.length 2 6 = true := inB_yes (by omega) (by omega)
      have hq : ¬ (y.runs.length : Int) = y.stops.length - 1 := by omega
      go_wp2_with (first
        | (go_at_call 57; refine (l2Name_any _ _).mono ?_; rintro e w1 ⟨rfl, rfl⟩)
        | (go_at_call 20; refine (l1In_any _ _ _ _).mono ?_; rintro e w1 ⟨rfl, rfl⟩))
      go_ret
      exact ⟨retB H.out.symm, by go_grown⟩
    · have hi : inB y.stops.length 2 6 = false := inB_no (by omega)
      go_wp2_with (first
        | (go_at_call 57; refine (l2Name_any _ _).mono ?_; rintro e w1 ⟨rfl, rfl⟩)
        | (go_at_call 20; refine (l1In_any _ _ _ _).mono ?_; rintro e w1 ⟨rfl, rfl⟩))
      go_ret
      exact ⟨retB H.out.symm, by go_grown⟩
end Go.Proofs.Ytemhcobjhpifpaa
