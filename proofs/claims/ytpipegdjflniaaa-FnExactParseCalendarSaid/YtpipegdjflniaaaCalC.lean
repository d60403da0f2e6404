/- The contract of the reference's test of calendars. -/
import Derived.Test.YtpipegdjflniaaaCalB
namespace Go.Proofs.Ytpipegdjflniaaa
open Go.ChangeShapes Go.WideShapes Go.ChangeAt Go.RowKit Go.PlainAid
set_option linter.unusedVariables false

set_option maxRecDepth 100000 in
set_option maxHeartbeats 4000000 in
theorem l3Good_any (f t d : Int) (A R : Option Addr) (ca cr : Nat) (us vs : List Int) (w : World) (h1 : IntsAt w w.heap.size A us) (h2 : IntsAt w w.heap.size R vs) (hn : us.length ≤ 1048576) (hm : vs.length ≤ 1048576) :
    Calls Try.prog 11 #[.agg #[.int .i64 f, .int .i64 t, .int .i64 d, .slice A us.length ca, .slice R vs.length cr]] w fun e w' => e = .returned (.bool (calB f t d us vs)) ∧ Below w.heap.size w w' := by
  have HA := Lib.hid h1
  have HR := Lib.hid h2
  clear h1 h2
  cases g1 : inB f 0 t
  · have g := inB_iff'.1 g1
    have HF := Lib.hid (calB_no (f := f) (t := t) (d := d) (us := us) (vs := vs) (fun h => by have := h.1; unfold HeadB at this; omega))
    go_enter Try.func11, Try.ntmps11
    go_wp2_with (first | (go_at_call 19; refine (l1In_any _ _ _ _).mono ?_; rintro e w1 ⟨rfl, rfl⟩))
    go_ret
    exact ⟨retB HF.out.symm, by go_grown⟩
  have k1 := inB_iff.1 g1
  by_cases g2 : 3650 < t
  · have HF := Lib.hid (calB_no (f := f) (t := t) (d := d) (us := us) (vs := vs) (fun h => by have := h.1; unfold HeadB at this; omega))
    go_enter Try.func11, Try.ntmps11
    go_wp2_with (first | (go_at_call 19; refine (l1In_any _ _ _ _).mono ?_; rintro e w1 ⟨rfl, rfl⟩))
    go_ret
    exact ⟨retB HF.out.symm, by go_grown⟩
  cases g3 : inB d 0 127
  · have g := inB_iff'.1 g3
    have HF := Lib.hid (calB_no (f := f) (t := t) (d := d) (us := us) (vs := vs) (fun h => by have := h.1; unfold HeadB at this; omega))
    go_enter Try.func11, Try.ntmps11
    go_wp2_with (first | (go_at_call 19; refine (l1In_any _ _ _ _).mono ?_; rintro e w1 ⟨rfl, rfl⟩))
    go_ret
    exact ⟨retB HF.out.symm, by go_grown⟩
  have k3 := inB_iff.1 g3
  by_cases g4 : 8 < us.length
  · have HF := Lib.hid (calB_no (f := f) (t := t) (d := d) (us := us) (vs := vs) (fun h => by have := h.1; unfold HeadB at this; omega))
    go_enter Try.func11, Try.ntmps11
    go_wp2_with (first | (go_at_call 19; refine (l1In_any _ _ _ _).mono ?_; rintro e w1 ⟨rfl, rfl⟩))
    go_ret
    exact ⟨retB HF.out.symm, by go_grown⟩
  by_cases g5 : 8 < vs.length
  · have HF := Lib.hid (calB_no (f := f) (t := t) (d := d) (us := us) (vs := vs) (fun h => by have := h.1; unfold HeadB at this; omega))
    go_enter Try.func11, Try.ntmps11
    go_wp2_with (first | (go_at_call 19; refine (l1In_any _ _ _ _).mono ?_; rintro e w1 ⟨rfl, rfl⟩))
    go_ret
    exact ⟨retB HF.out.symm, by go_grown⟩
  cases g6 : riseB us f t
  · have HF := Lib.hid (calB_no (f := f) (t := t) (d := d) (us := us) (vs := vs) (fun h => by have := riseB_iff.2 h.2.1; rw [g6] at this; cases this))
    go_enter Try.func11, Try.ntmps11
    go_wp2_with (first | (go_at_call 19; refine (l1In_any _ _ _ _).mono ?_; rintro e w1 ⟨rfl, rfl⟩))
    refine (l1Rising_any _ _ _ _ _ _ (HA.out.call (by go_grown)) hn).mono ?_
    rintro e w1 ⟨rfl, q1, rfl⟩
    go_wp2_with fail
    go_ret
    exact ⟨retB HF.out.symm, bel_drewN (by go_grown) _⟩
  cases g7 : riseB vs f t
  · have HF := Lib.hid (calB_no (f := f) (t := t) (d := d) (us := us) (vs := vs) (fun h => by have := riseB_iff.2 h.2.2.1; rw [g7] at this; cases this))
    go_enter Try.func11, Try.ntmps11
    go_wp2_with (first | (go_at_call 19; refine (l1In_any _ _ _ _).mono ?_; rintro e w1 ⟨rfl, rfl⟩))
    refine (l1Rising_any _ _ _ _ _ _ (HA.out.call (by go_grown)) hn).mono ?_
    rintro e w1 ⟨rfl, q1, rfl⟩
    go_wp2_with fail
    refine (l1Rising_any _ _ _ _ _ _ (HR.out.call (bel_drewN (by go_grown) _)) hm).mono ?_
    rintro e w1 ⟨rfl, q2, rfl⟩
    go_wp2_with fail
    go_ret
    exact ⟨retB HF.out.symm, bel_drewN (by go_grown) _⟩
  have HH : Hid (HeadB f t d us.length vs.length) := by show HeadB _ _ _ _ _; unfold HeadB; omega
  have R1 := riseB_iff.1 g6
  have R2 := riseB_iff.1 g7
  have HR1 := Lib.hid R1
  have HR2 := Lib.hid R2
  clear R1 R2
  go_enter Try.func11, Try.ntmps11
  go_wp2_with (first | (go_at_call 19; refine (l1In_any _ _ _ _).mono ?_; rintro e w1 ⟨rfl, rfl⟩))
  refine (l1Rising_any _ _ _ _ _ _ (HA.out.call (by go_grown)) hn).mono ?_
  rintro e w1 ⟨rfl, q1, rfl⟩
  go_wp2_with fail
  refine (l1Rising_any _ _ _ _ _ _ (HR.out.call (bel_drewN (by go_grown) _)) hm).mono ?_
  rintro e w1 ⟨rfl, q2, rfl⟩
  go_wp2_with fail
  have c0 : ((w.alloc (.cells #[.int .i64 f, .int .i64 t, .int .i64 d, .slice A us.length ca, .slice R vs.length cr] 24)).drewN (q1 + q2)).cell? ⟨w.heap.size, 0, none⟩ = some (.int .i64 f) := by go_simp
  have c1 : ((w.alloc (.cells #[.int .i64 f, .int .i64 t, .int .i64 d, .slice A us.length ca, .slice R vs.length cr] 24)).drewN (q1 + q2)).cell? ⟨w.heap.size, 1, none⟩ = some (.int .i64 t) := by go_simp
  have c2 : ((w.alloc (.cells #[.int .i64 f, .int .i64 t, .int .i64 d, .slice A us.length ca, .slice R vs.length cr] 24)).drewN (q1 + q2)).cell? ⟨w.heap.size, 2, none⟩ = some (.int .i64 d) := by go_simp
  have c3 : ((w.alloc (.cells #[.int .i64 f, .int .i64 t, .int .i64 d, .slice A us.length ca, .slice R vs.length cr] 24)).drewN (q1 + q2)).cell? ⟨w.heap.size, 3, none⟩ = some (.slice A us.length ca) := by go_simp
  have c4 : ((w.alloc (.cells #[.int .i64 f, .int .i64 t, .int .i64 d, .slice A us.length ca, .slice R vs.length cr] 24)).drewN (q1 + q2)).cell? ⟨w.heap.size, 4, none⟩ = some (.slice R vs.length cr) := by go_simp
  have hlt0 : w.heap.size < ((w.alloc (.cells #[.int .i64 f, .int .i64 t, .int .i64 d, .slice A us.length ca, .slice R vs.length cr] 24)).drewN (q1 + q2)).heap.size := by simp
  have hWW : Below w.heap.size w ((w.alloc (.cells #[.int .i64 f, .int .i64 t, .int .i64 d, .slice A us.length ca, .slice R vs.length cr] 24)).drewN (q1 + q2)) := bel_drewN (by go_grown) _
  have hI1 := HA.out.call hWW
  have hI2 := HR.out.call hWW
  generalize ((w.alloc (.cells #[.int .i64 f, .int .i64 t, .int .i64 d, .slice A us.length ca, .slice R vs.length cr] 24)).drewN (q1 + q2)) = W at c0 c1 c2 c3 c4 hlt0 hWW hI1 hI2 ⊢
  have HWW := Lib.hid hWW
  have HI1 := Lib.hid hI1
  have HI2 := Lib.hid hI2
  have C0 := Lib.hid c0
  have C1 := Lib.hid c1
  have C2 := Lib.hid c2
  have C3 := Lib.hid c3
  have C4 := Lib.hid c4
  have k0 := HH.out
  unfold HeadB at k0
  obtain ⟨k01, k02, k03, k04, k05, k06, k07⟩ := k0
  clear hWW hI1 hI2 c0 c1 c2 c3 c4
  go_loopw [3] (fun i wr => ∃ k : Nat, k ≤ us.length ∧ i = .int .i64 k ∧ AllWd d us false k ∧ Below W.heap.size W wr) (fun i _ => us.length - (intOf i).toNat)
  case atStart => exact ⟨0, Nat.zero_le _, rfl, fun i hi => by omega, Below.refl _ _⟩
  case round =>
    obtain ⟨k, hk, rfl, ha, hb⟩ := hrel
    have HAl := Lib.hid ha
    have HB := Lib.hid hb
    have c0 := (hb.cell (p := ⟨w.heap.size, 0, none⟩) hlt0).trans C0.out
    have c1 := (hb.cell (p := ⟨w.heap.size, 1, none⟩) hlt0).trans C1.out
    have c2 := (hb.cell (p := ⟨w.heap.size, 2, none⟩) hlt0).trans C2.out
    have c3 := (hb.cell (p := ⟨w.heap.size, 3, none⟩) hlt0).trans C3.out
    have c4 := (hb.cell (p := ⟨w.heap.size, 4, none⟩) hlt0).trans C4.out
    have hsz := hb.size
    by_cases hlt : k < us.length
    · obtain ⟨b, o, rfl, hbl, hc⟩ := (HI1.out.below hb).get hlt
      have hi1 : (k : Int) < (us.length : Int) := by omega
      have hr := HR1.out k hlt
      have d0 : 0 ≤ nth us k := by omega
      have d1 : nth us k ≤ 3650 := by omega
      have hin : inB (nth us k) f t = true := inB_yes hr.1.1 hr.1.2
      clear hr ha hb
      cases hw : wdB d (nth us k)
      · go_wp2_with fail
        go_still_tail 6, (by kernel_rfl)
        go_wp2_with (first | (go_at_call 22; refine (l3Regular_any _ _ _ _ _ _ _ _ _ _ _ (by omega) (by omega) (by omega) (by omega)).mono ?_; rintro e w1 ⟨rfl, rfl⟩))
        go_roundw
        case rel => exact ⟨k + 1, by omega, by go_num, fun i hi => by (by_cases e : i = k; (rw [e]; exact hw); exact HAl.out i (by omega)), bel_alloc (bel_drew HB.out) _⟩
        case measure => simp [intOf]; omega
      · have HF := Lib.hid (calB_no (f := f) (t := t) (d := d) (us := us) (vs := vs) (fun h => by have := h.2.2.2.1 k hlt; rw [hw] at this; cases this))
        go_wp2_with fail
        go_still_tail 6, (by kernel_rfl)
        go_wp2_with (first | (go_at_call 22; refine (l3Regular_any _ _ _ _ _ _ _ _ _ _ _ (by omega) (by omega) (by omega) (by omega)).mono ?_; rintro e w1 ⟨rfl, rfl⟩))
        go_ret
        exact ⟨retB HF.out.symm, HWW.out.trans ((bel_alloc (bel_drew HB.out) _).mono HWW.out.size)⟩
    · obtain rfl : k = us.length := by omega
      clear ha hb
      have hlt2 : w.heap.size < wr.heap.size := by omega
      obtain ⟨W2, rfl⟩ : ∃ W2 : World, W2 = wr := ⟨_, rfl⟩
      go_wp2_with fail
      have HJ := Lib.hid (HI2.out.call HB.out)
      have HB2 := Lib.hid (HWW.out.trans (HB.out.mono HWW.out.size))
      have D0 := Lib.hid c0
      have D1 := Lib.hid c1
      have D2 := Lib.hid c2
      have D3 := Lib.hid c3
      have D4 := Lib.hid c4
      clear c0 c1 c2 c3 c4
      go_loopw [4] (fun i wr => ∃ k : Nat, k ≤ vs.length ∧ i = .int .i64 k ∧ AllWd d vs true k ∧ Below W2.heap.size W2 wr) (fun i _ => vs.length - (intOf i).toNat)
      case atStart => exact ⟨0, Nat.zero_le _, rfl, fun i hi => by omega, Below.refl _ _⟩
      case round =>
        obtain ⟨k, hk, rfl, ha, hb⟩ := hrel
        have HAl2 := Lib.hid ha
        have HB3 := Lib.hid hb
        have c0 := (hb.cell (p := ⟨w.heap.size, 0, none⟩) hlt2).trans D0.out
        have c1 := (hb.cell (p := ⟨w.heap.size, 1, none⟩) hlt2).trans D1.out
        have c2 := (hb.cell (p := ⟨w.heap.size, 2, none⟩) hlt2).trans D2.out
        have c3 := (hb.cell (p := ⟨w.heap.size, 3, none⟩) hlt2).trans D3.out
        have c4 := (hb.cell (p := ⟨w.heap.size, 4, none⟩) hlt2).trans D4.out
        have hsz := hb.size
        by_cases hlt : k < vs.length
        · obtain ⟨b, o, rfl, hbl, hc⟩ := (HJ.out.below hb).get hlt
          have hi1 : (k : Int) < (vs.length : Int) := by omega
          have hr := HR2.out k hlt
          have d0 : 0 ≤ nth vs k := by omega
          have d1 : nth vs k ≤ 3650 := by omega
          have hin : inB (nth vs k) f t = true := inB_yes hr.1.1 hr.1.2
          clear hr ha hb
          cases hw : wdB d (nth vs k)
          · have HF := Lib.hid (calB_no (f := f) (t := t) (d := d) (us := us) (vs := vs) (fun h => by have := h.2.2.2.2 k hlt; rw [hw] at this; cases this))
            go_wp2_with fail
            go_still_tail 6, (by kernel_rfl)
            go_wp2_with (first | (go_at_call 22; refine (l3Regular_any _ _ _ _ _ _ _ _ _ _ _ (by omega) (by omega) (by omega) (by omega)).mono ?_; rintro e w1 ⟨rfl, rfl⟩))
            go_ret
            exact ⟨retB HF.out.symm, HB2.out.trans ((bel_alloc (bel_drew HB3.out) _).mono HB2.out.size)⟩
          · go_wp2_with fail
            go_still_tail 6, (by kernel_rfl)
            go_wp2_with (first | (go_at_call 22; refine (l3Regular_any _ _ _ _ _ _ _ _ _ _ _ (by omega) (by omega) (by omega) (by omega)).mono ?_; rintro e w1 ⟨rfl, rfl⟩))
            go_roundw
            case rel => exact ⟨k + 1, by omega, by go_num, fun i hi => by (by_cases e : i = k; (rw [e]; exact hw); exact HAl2.out i (by omega)), bel_alloc (bel_drew HB3.out) _⟩
            case measure => simp [intOf]; omega
        · obtain rfl : k = vs.length := by omega
          have HF := Lib.hid (calB_yes (f := f) (t := t) (d := d) (us := us) (vs := vs) ⟨HH.out, HR1.out, HR2.out, HAl.out, HAl2.out⟩)
          clear ha hb
          go_wp2_with fail
          go_ret
          exact ⟨retB HF.out.symm, HB2.out.trans (HB3.out.mono HB2.out.size)⟩
end Go.Proofs.Ytpipegdjflniaaa
