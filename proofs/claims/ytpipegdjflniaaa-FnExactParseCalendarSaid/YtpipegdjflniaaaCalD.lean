/- The contract of the program's test of calendars. -/
import Derived.Test.YtpipegdjflniaaaCalB
namespace Go.Proofs.Ytpipegdjflniaaa
open Go.ChangeShapes Go.WideShapes Go.ChangeAt Go.RowKit Go.PlainAid
set_option linter.unusedVariables false

theorem isDay_any (x : Int) (w : World) :
    Calls Try.prog 24 #[.int .i64 x] w fun e w' => e = .returned (.bool (inB x 0 3650)) ∧ w = w' := by
  go_enter Try.func24, Try.ntmps24
  go_wp2_with (go_at_call 25; refine (within_any _ _ _ _).mono ?_; rintro e w1 ⟨rfl, rfl⟩)
  go_ret
  exact ⟨rfl, rfl⟩

set_option maxHeartbeats 4000000 in
theorem isValidCalendar_any (f t d : Int) (A R : Option Addr) (ca cr : Nat) (us vs : List Int) (w : World) (h1 : IntsAt w w.heap.size A us) (h2 : IntsAt w w.heap.size R vs) (hn : us.length ≤ 1048576) (hm : vs.length ≤ 1048576) :
    Calls Try.prog 15 #[.agg #[.int .i64 f, .int .i64 t, .int .i64 d, .slice A us.length ca, .slice R vs.length cr]] w fun e w' => e = .returned (.bool (calB f t d us vs)) ∧ Below w.heap.size w w' := by
  have HA := Lib.hid h1
  have HR := Lib.hid h2
  clear h1 h2
  cases g1 : inB f 0 3650
  · have g := inB_iff'.1 g1
    have HF := Lib.hid (calB_no (f := f) (t := t) (d := d) (us := us) (vs := vs) (fun h => by have := h.1; unfold HeadB at this; omega))
    go_enter Try.func15, Try.ntmps15
    go_wp2_with (first | (go_at_call 24; refine (isDay_any _ _).mono ?_; rintro e w1 ⟨rfl, rfl⟩) | (go_at_call 25; refine (within_any _ _ _ _).mono ?_; rintro e w1 ⟨rfl, rfl⟩))
    go_ret
    exact ⟨retB HF.out.symm, by go_grown⟩
  have k1 := inB_iff.1 g1
  cases g2 : inB t 0 3650
  · have g := inB_iff'.1 g2
    have HF := Lib.hid (calB_no (f := f) (t := t) (d := d) (us := us) (vs := vs) (fun h => by have := h.1; unfold HeadB at this; omega))
    go_enter Try.func15, Try.ntmps15
    go_wp2_with (first | (go_at_call 24; refine (isDay_any _ _).mono ?_; rintro e w1 ⟨rfl, rfl⟩) | (go_at_call 25; refine (within_any _ _ _ _).mono ?_; rintro e w1 ⟨rfl, rfl⟩))
    go_ret
    exact ⟨retB HF.out.symm, by go_grown⟩
  have k2 := inB_iff.1 g2
  by_cases g3 : t < f
  · have HF := Lib.hid (calB_no (f := f) (t := t) (d := d) (us := us) (vs := vs) (fun h => by have := h.1; unfold HeadB at this; omega))
    go_enter Try.func15, Try.ntmps15
    go_wp2_with (first | (go_at_call 24; refine (isDay_any _ _).mono ?_; rintro e w1 ⟨rfl, rfl⟩) | (go_at_call 25; refine (within_any _ _ _ _).mono ?_; rintro e w1 ⟨rfl, rfl⟩))
    go_ret
    exact ⟨retB HF.out.symm, by go_grown⟩
  cases g4 : inB d 0 127
  · have g := inB_iff'.1 g4
    have HF := Lib.hid (calB_no (f := f) (t := t) (d := d) (us := us) (vs := vs) (fun h => by have := h.1; unfold HeadB at this; omega))
    go_enter Try.func15, Try.ntmps15
    go_wp2_with (first | (go_at_call 24; refine (isDay_any _ _).mono ?_; rintro e w1 ⟨rfl, rfl⟩) | (go_at_call 25; refine (within_any _ _ _ _).mono ?_; rintro e w1 ⟨rfl, rfl⟩))
    go_ret
    exact ⟨retB HF.out.symm, by go_grown⟩
  have k4 := inB_iff.1 g4
  by_cases g5 : 8 < us.length
  · have HF := Lib.hid (calB_no (f := f) (t := t) (d := d) (us := us) (vs := vs) (fun h => by have := h.1; unfold HeadB at this; omega))
    go_enter Try.func15, Try.ntmps15
    go_wp2_with (first | (go_at_call 24; refine (isDay_any _ _).mono ?_; rintro e w1 ⟨rfl, rfl⟩) | (go_at_call 25; refine (within_any _ _ _ _).mono ?_; rintro e w1 ⟨rfl, rfl⟩))
    go_ret
    exact ⟨retB HF.out.symm, by go_grown⟩
  by_cases g6 : 8 < vs.length
  · have HF := Lib.hid (calB_no (f := f) (t := t) (d := d) (us := us) (vs := vs) (fun h => by have := h.1; unfold HeadB at this; omega))
    go_enter Try.func15, Try.ntmps15
    go_wp2_with (first | (go_at_call 24; refine (isDay_any _ _).mono ?_; rintro e w1 ⟨rfl, rfl⟩) | (go_at_call 25; refine (within_any _ _ _ _).mono ?_; rintro e w1 ⟨rfl, rfl⟩))
    go_ret
    exact ⟨retB HF.out.symm, by go_grown⟩
  cases g7 : riseB us f t
  · have HF := Lib.hid (calB_no (f := f) (t := t) (d := d) (us := us) (vs := vs) (fun h => by have := riseB_iff.2 h.2.1; rw [g7] at this; cases this))
    go_enter Try.func15, Try.ntmps15
    go_wp2_with (first | (go_at_call 24; refine (isDay_any _ _).mono ?_; rintro e w1 ⟨rfl, rfl⟩) | (go_at_call 25; refine (within_any _ _ _ _).mono ?_; rintro e w1 ⟨rfl, rfl⟩))
    refine (areDays_any _ _ _ _ _ _ (HA.out.call (by go_grown)) hn (by omega) (by omega)).mono ?_
    rintro e w1 ⟨rfl, q1, rfl⟩
    go_wp2_with fail
    go_ret
    exact ⟨retB HF.out.symm, bel_drewN (by go_grown) _⟩
  cases g8 : riseB vs f t
  · have HF := Lib.hid (calB_no (f := f) (t := t) (d := d) (us := us) (vs := vs) (fun h => by have := riseB_iff.2 h.2.2.1; rw [g8] at this; cases this))
    go_enter Try.func15, Try.ntmps15
    go_wp2_with (first | (go_at_call 24; refine (isDay_any _ _).mono ?_; rintro e w1 ⟨rfl, rfl⟩) | (go_at_call 25; refine (within_any _ _ _ _).mono ?_; rintro e w1 ⟨rfl, rfl⟩))
    refine (areDays_any _ _ _ _ _ _ (HA.out.call (by go_grown)) hn (by omega) (by omega)).mono ?_
    rintro e w1 ⟨rfl, q1, rfl⟩
    go_wp2_with fail
    refine (areDays_any _ _ _ _ _ _ (HR.out.call (bel_drewN (by go_grown) _)) hm (by omega) (by omega)).mono ?_
    rintro e w1 ⟨rfl, q2, rfl⟩
    go_wp2_with fail
    go_ret
    exact ⟨retB HF.out.symm, bel_drewN (by go_grown) _⟩
  have HH : Hid (HeadB f t d us.length vs.length) := by show HeadB _ _ _ _ _; unfold HeadB; omega
  have HR1 := Lib.hid (riseB_iff.1 g7)
  have HR2 := Lib.hid (riseB_iff.1 g8)
  go_enter Try.func15, Try.ntmps15
  go_wp2_with (first | (go_at_call 24; refine (isDay_any _ _).mono ?_; rintro e w1 ⟨rfl, rfl⟩) | (go_at_call 25; refine (within_any _ _ _ _).mono ?_; rintro e w1 ⟨rfl, rfl⟩))
  refine (areDays_any _ _ _ _ _ _ (HA.out.call (by go_grown)) hn (by omega) (by omega)).mono ?_
  rintro e w1 ⟨rfl, q1, rfl⟩
  go_wp2_with fail
  refine (areDays_any _ _ _ _ _ _ (HR.out.call (bel_drewN (by go_grown) _)) hm (by omega) (by omega)).mono ?_
  rintro e w1 ⟨rfl, q2, rfl⟩
  go_wp2_with fail
  have c2 : ((w.alloc (.cells #[.int .i64 f, .int .i64 t, .int .i64 d, .slice A us.length ca, .slice R vs.length cr] 24)).drewN (q1 + q2)).cell? ⟨w.heap.size, 2, none⟩ = some (.int .i64 d) := by go_simp
  have c4 : ((w.alloc (.cells #[.int .i64 f, .int .i64 t, .int .i64 d, .slice A us.length ca, .slice R vs.length cr] 24)).drewN (q1 + q2)).cell? ⟨w.heap.size, 4, none⟩ = some (.slice R vs.length cr) := by go_simp
  have hlt0 : w.heap.size < ((w.alloc (.cells #[.int .i64 f, .int .i64 t, .int .i64 d, .slice A us.length ca, .slice R vs.length cr] 24)).drewN (q1 + q2)).heap.size := by simp
  have hWW : Below w.heap.size w ((w.alloc (.cells #[.int .i64 f, .int .i64 t, .int .i64 d, .slice A us.length ca, .slice R vs.length cr] 24)).drewN (q1 + q2)) := bel_drewN (by go_grown) _
  have hI1 := HA.out.call hWW
  have hI2 := HR.out.call hWW
  generalize ((w.alloc (.cells #[.int .i64 f, .int .i64 t, .int .i64 d, .slice A us.length ca, .slice R vs.length cr] 24)).drewN (q1 + q2)) = W at c2 c4 hlt0 hWW hI1 hI2 ⊢
  have HWW := Lib.hid hWW
  have HI1 := Lib.hid hI1
  have HI2 := Lib.hid hI2
  have k0 := HH.out
  unfold HeadB at k0
  obtain ⟨k01, k02, k03, k04, k05, k06, k07⟩ := k0
  clear hWW hI1 hI2
  go_loop [63] (fun i => ∃ k : Nat, k ≤ us.length ∧ i = .int .i64 k ∧ AllWd d us false k) (fun i => us.length - (intOf i).toNat)
  case atStart => exact ⟨0, Nat.zero_le _, rfl, fun i hi => by omega⟩
  case round =>
    obtain ⟨k, hk, rfl, ha⟩ := hrel
    have HAlus := Lib.hid ha
    clear ha
    by_cases hlt : k < us.length
    · obtain ⟨b, o, rfl, hbl, hc⟩ := HI1.out.get hlt
      have hi1 : (k : Int) < (us.length : Int) := by omega
      have hr := HR1.out k hlt
      have d0 : 0 ≤ nth us k := by omega
      have d1 : nth us k ≤ 3650 := by omega
      clear hr
      cases hw : wdB d (nth us k)
      · go_wp2_with (first | (go_at_call 27; refine (byWeekday_any _ _ _ (by omega) (by omega) (by omega) (by omega)).mono ?_; rintro e w1 ⟨rfl, rfl⟩))
        go_round
        case rel => exact ⟨k + 1, by omega, by go_num, fun i hi => by (by_cases e : i = k; (rw [e]; exact hw); exact HAlus.out i (by omega))⟩
        case measure => simp [intOf]; omega
      · have HF := Lib.hid (calB_no (f := f) (t := t) (d := d) (us := us) (vs := vs) (fun h => by have := h.2.2.2.1 k hlt; rw [hw] at this; cases this))
        go_wp2_with (first | (go_at_call 27; refine (byWeekday_any _ _ _ (by omega) (by omega) (by omega) (by omega)).mono ?_; rintro e w1 ⟨rfl, rfl⟩))
        go_ret
        exact ⟨retB HF.out.symm, HWW.out⟩
    · obtain rfl : k = us.length := by omega
      go_wp2_with fail
      go_loop [75] (fun i => ∃ k : Nat, k ≤ vs.length ∧ i = .int .i64 k ∧ AllWd d vs true k) (fun i => vs.length - (intOf i).toNat)
      case atStart => exact ⟨0, Nat.zero_le _, rfl, fun i hi => by omega⟩
      case round =>
        obtain ⟨k, hk, rfl, ha⟩ := hrel
        have HAlvs := Lib.hid ha
        clear ha
        by_cases hlt : k < vs.length
        · obtain ⟨b, o, rfl, hbl, hc⟩ := HI2.out.get hlt
          have hi1 : (k : Int) < (vs.length : Int) := by omega
          have hr := HR2.out k hlt
          have d0 : 0 ≤ nth vs k := by omega
          have d1 : nth vs k ≤ 3650 := by omega
          clear hr
          cases hw : wdB d (nth vs k)
          · have HF := Lib.hid (calB_no (f := f) (t := t) (d := d) (us := us) (vs := vs) (fun h => by have := h.2.2.2.2 k hlt; rw [hw] at this; cases this))
            go_wp2_with (first | (go_at_call 27; refine (byWeekday_any _ _ _ (by omega) (by omega) (by omega) (by omega)).mono ?_; rintro e w1 ⟨rfl, rfl⟩))
            go_ret
            exact ⟨retB HF.out.symm, HWW.out⟩
          · go_wp2_with (first | (go_at_call 27; refine (byWeekday_any _ _ _ (by omega) (by omega) (by omega) (by omega)).mono ?_; rintro e w1 ⟨rfl, rfl⟩))
            go_round
            case rel => exact ⟨k + 1, by omega, by go_num, fun i hi => by (by_cases e : i = k; (rw [e]; exact hw); exact HAlvs.out i (by omega))⟩
            case measure => simp [intOf]; omega
        · obtain rfl : k = vs.length := by omega
          have HF := Lib.hid (calB_yes (f := f) (t := t) (d := d) (us := us) (vs := vs) ⟨HH.out, HR1.out, HR2.out, HAlus.out, HAlvs.out⟩)
          go_wp2_with fail
          go_ret
          exact ⟨retB HF.out.symm, HWW.out⟩
end Go.Proofs.Ytpipegdjflniaaa
