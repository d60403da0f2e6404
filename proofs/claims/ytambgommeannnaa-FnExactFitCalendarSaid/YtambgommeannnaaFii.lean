/- FitCalendar: the program's contract. -/
import Derived.Test.YtambgommeannnaaFiu
import Derived.Test.YtambgommeannnaaCalM
import Derived.BigQuiet
namespace Go.Proofs.Ytambgommeannnaa
open Go.ChangeShapes Go.WideShapes Go.ChangeAt Go.RowKit Go.PlainAid
set_option linter.unusedVariables false
set_option linter.unusedSimpArgs false

set_option maxRecDepth 100000 in
set_option maxHeartbeats 8000000 in
theorem implFit_any (A : Option Addr) (c : Nat) (xs : List Int) (f t : Int) (w : World) (h : IntsIn w (Zone.below w.heap.size) A xs) (hn : xs.length ≤ 1048576) :
    Calls Try.prog 17 #[.int .i64 f, .int .i64 t, .slice A xs.length c] w (RetCal (fcI xs f t f) (fcI xs f t t) (fcI xs f t (fcD0 xs f t)) (fcX xs f t true) (fcX xs f t false) (fcB xs f t) w) := by
  have hb0 : Below w.heap.size w (w.alloc (.cells #[.int .i64 0, .int .i64 0, .int .i64 0, .slice none 0 0, .slice none 0 0] 24)) := by go_grown
  have HB0 := Lib.hid hb0
  have HI := Lib.hid h
  have HI0 := Lib.hid (IntsIn.at (h.call hb0))
  have HZ : Hid (FB (w.alloc (.cells #[.int .i64 0, .int .i64 0, .int .i64 0, .slice none 0 0, .slice none 0 0] 24)) w.heap.size 0 0 0 (.slice none 0 0) (.slice none 0 0)) := Lib.hid ⟨by go_simp, by go_simp, by go_simp, by go_simp, by go_simp, fun j => by go_simp, by simp⟩
  have hzz : w.heap.size < (w.alloc (.cells #[.int .i64 0, .int .i64 0, .int .i64 0, .slice none 0 0, .slice none 0 0] 24)).heap.size := by simp
  clear h hb0
  cases b1 : inB f 0 3650
  · skip
    have HN := Lib.hid (fcB_h (xs := xs) (f := f) (t := t) (by unfold fcH; rw [b1]; rfl))
    go_enter Try.func17, Try.ntmps17
    go_wp2_with fail
    generalize (w.alloc (.cells #[.int .i64 0, .int .i64 0, .int .i64 0, .slice none 0 0, .slice none 0 0] 24)) = w0 at *
    obtain ⟨z0, z1, z2, z3, z4, z5, z6⟩ := HZ.out
    go_wp2_with (first | (go_at_call 74; refine (isDay_any _ _).mono ?_; rintro e wd ⟨rfl, rfl⟩) | (go_at_call 75; refine (areDays_any _ _ _ _ _ _ HI0.out hn (by omega) (by omega)).mono ?_; rintro e w1 ⟨rfl, q, rfl⟩))
    refine bodyPost_ret (v := .tuple #[.agg #[.int .i64 0, .int .i64 0, .int .i64 0, .slice none 0 0, .slice none 0 0], .bool false]) (by simp [results, Try.results17, go_sem, z0, z1, z2, z3, z4]) rfl ?_
    refine retCalN HN.out ?_
    repeat' (refine Below.setCell ?_ (by simp) _)
    exact HB0.out
  cases b2 : inB t 0 3650
  · skip
    have HN := Lib.hid (fcB_h (xs := xs) (f := f) (t := t) (by unfold fcH; rw [b1, b2]; rfl))
    go_enter Try.func17, Try.ntmps17
    go_wp2_with fail
    generalize (w.alloc (.cells #[.int .i64 0, .int .i64 0, .int .i64 0, .slice none 0 0, .slice none 0 0] 24)) = w0 at *
    obtain ⟨z0, z1, z2, z3, z4, z5, z6⟩ := HZ.out
    go_wp2_with (first | (go_at_call 74; refine (isDay_any _ _).mono ?_; rintro e wd ⟨rfl, rfl⟩) | (go_at_call 75; refine (areDays_any _ _ _ _ _ _ HI0.out hn (by omega) (by omega)).mono ?_; rintro e w1 ⟨rfl, q, rfl⟩))
    refine bodyPost_ret (v := .tuple #[.agg #[.int .i64 0, .int .i64 0, .int .i64 0, .slice none 0 0, .slice none 0 0], .bool false]) (by simp [results, Try.results17, go_sem, z0, z1, z2, z3, z4]) rfl ?_
    refine retCalN HN.out ?_
    repeat' (refine Below.setCell ?_ (by simp) _)
    exact HB0.out
  have i1 := inB_iff.1 b1
  have i2 := inB_iff.1 b2
  by_cases c1 : t < f
  · skip
    have b3 : inB (t - f) 0 200 = false := inB_iff'.2 (by omega)
    have HN := Lib.hid (fcB_h (xs := xs) (f := f) (t := t) (by unfold fcH; rw [b1, b2, b3]; rfl))
    clear b3
    go_enter Try.func17, Try.ntmps17
    go_wp2_with fail
    generalize (w.alloc (.cells #[.int .i64 0, .int .i64 0, .int .i64 0, .slice none 0 0, .slice none 0 0] 24)) = w0 at *
    obtain ⟨z0, z1, z2, z3, z4, z5, z6⟩ := HZ.out
    go_wp2_with (first | (go_at_call 74; refine (isDay_any _ _).mono ?_; rintro e wd ⟨rfl, rfl⟩) | (go_at_call 75; refine (areDays_any _ _ _ _ _ _ HI0.out hn (by omega) (by omega)).mono ?_; rintro e w1 ⟨rfl, q, rfl⟩))
    refine bodyPost_ret (v := .tuple #[.agg #[.int .i64 0, .int .i64 0, .int .i64 0, .slice none 0 0, .slice none 0 0], .bool false]) (by simp [results, Try.results17, go_sem, z0, z1, z2, z3, z4]) rfl ?_
    refine retCalN HN.out ?_
    repeat' (refine Below.setCell ?_ (by simp) _)
    exact HB0.out
  by_cases c2 : 200 < t - f
  · skip
    have b3 : inB (t - f) 0 200 = false := inB_iff'.2 (by omega)
    have HN := Lib.hid (fcB_h (xs := xs) (f := f) (t := t) (by unfold fcH; rw [b1, b2, b3]; rfl))
    clear b3
    go_enter Try.func17, Try.ntmps17
    go_wp2_with fail
    generalize (w.alloc (.cells #[.int .i64 0, .int .i64 0, .int .i64 0, .slice none 0 0, .slice none 0 0] 24)) = w0 at *
    obtain ⟨z0, z1, z2, z3, z4, z5, z6⟩ := HZ.out
    go_wp2_with (first | (go_at_call 74; refine (isDay_any _ _).mono ?_; rintro e wd ⟨rfl, rfl⟩) | (go_at_call 75; refine (areDays_any _ _ _ _ _ _ HI0.out hn (by omega) (by omega)).mono ?_; rintro e w1 ⟨rfl, q, rfl⟩))
    refine bodyPost_ret (v := .tuple #[.agg #[.int .i64 0, .int .i64 0, .int .i64 0, .slice none 0 0, .slice none 0 0], .bool false]) (by simp [results, Try.results17, go_sem, z0, z1, z2, z3, z4]) rfl ?_
    refine retCalN HN.out ?_
    repeat' (refine Below.setCell ?_ (by simp) _)
    exact HB0.out
  have b3 : inB (t - f) 0 200 = true := inB_iff.2 (by omega)
  cases b4 : riseB xs f t
  · skip
    have HN := Lib.hid (fcB_h (xs := xs) (f := f) (t := t) (by unfold fcH; rw [b1, b2, b3, b4]; rfl))
    clear b3
    go_enter Try.func17, Try.ntmps17
    go_wp2_with fail
    generalize (w.alloc (.cells #[.int .i64 0, .int .i64 0, .int .i64 0, .slice none 0 0, .slice none 0 0] 24)) = w0 at *
    obtain ⟨z0, z1, z2, z3, z4, z5, z6⟩ := HZ.out
    go_wp2_with (first | (go_at_call 74; refine (isDay_any _ _).mono ?_; rintro e wd ⟨rfl, rfl⟩) | (go_at_call 75; refine (areDays_any _ _ _ _ _ _ HI0.out hn (by omega) (by omega)).mono ?_; rintro e w1 ⟨rfl, q, rfl⟩))
    refine bodyPost_ret (v := .tuple #[.agg #[.int .i64 0, .int .i64 0, .int .i64 0, .slice none 0 0, .slice none 0 0], .bool false]) (by simp [results, Try.results17, go_sem, z0, z1, z2, z3, z4]) rfl ?_
    refine retCalN HN.out ?_
    repeat' (refine Below.setCell ?_ (by simp) _)
    exact bel_drewN HB0.out q
  have HH : Hid (fcH xs f t = true) := Lib.hid (by unfold fcH; rw [b1, b2, b3, b4]; rfl)
  clear b3
  obtain ⟨n, hn0⟩ : ∃ n : Nat, n = fcN f t := ⟨_, rfl⟩
  have HNF := Lib.hid hn0
  have n1 : f + n ≤ t + 1 := by rw [hn0]; unfold fcN; omega
  have n2 : t + 1 ≤ f + n := by rw [hn0]; unfold fcN; omega
  have n3 : n ≤ 201 := by omega
  clear hn0
  go_enter Try.func17, Try.ntmps17
  go_wp2_with fail
  generalize (w.alloc (.cells #[.int .i64 0, .int .i64 0, .int .i64 0, .slice none 0 0, .slice none 0 0] 24)) = w0 at *
  go_wp2_with (first | (go_at_call 74; refine (isDay_any _ _).mono ?_; rintro e wd ⟨rfl, rfl⟩) | (go_at_call 75; refine (areDays_any _ _ _ _ _ _ HI0.out hn (by omega) (by omega)).mono ?_; rintro e w1 ⟨rfl, q, rfl⟩))
  have HF0 : Hid (FArr w (((w0.drewN q).alloc (.cells #[.int .i64 0, .int .i64 0, .int .i64 0, .int .i64 0, .int .i64 0, .int .i64 0, .int .i64 0] 107)).alloc (.cells #[.int .i64 0, .int .i64 0, .int .i64 0, .int .i64 0, .int .i64 0, .int .i64 0, .int .i64 0] 107)) w.heap.size w0.heap.size (w0.heap.size + 1) xs f 0) := Lib.hid
    ⟨(arr7 (w0.drewN q) _ xs f true).call ((Below.refl _ _).alloc (Nat.le_refl _) _),
      by simpa using arr7 ((w0.drewN q).alloc (.cells #[.int .i64 0, .int .i64 0, .int .i64 0, .int .i64 0, .int .i64 0, .int .i64 0, .int .i64 0] 107)) 107 xs f false,
      (HZ.out.drewN q).below (B := w0.heap.size) (by go_grown) hzz, HB0.out.trans ((((bel_drewN (Below.refl _ _) q).alloc (Nat.le_refl _) _).alloc (by simp) _).mono HB0.out.size)⟩
  have hg1 : w.heap.size ≤ w0.heap.size := by omega
  have hg2 : w.heap.size ≤ w0.heap.size + 1 := by omega
  obtain ⟨g1, hg1e⟩ : ∃ g1, g1 = w0.heap.size := ⟨_, rfl⟩
  obtain ⟨g2, hg2e⟩ : ∃ g2, g2 = g1 + 1 := ⟨_, rfl⟩
  obtain ⟨r0, hr0e⟩ : ∃ r0, r0 = w.heap.size := ⟨_, rfl⟩
  have hgg : g1 ≠ g2 := by omega
  have hr1 : r0 ≠ g1 := by omega
  have hr2 : r0 ≠ g2 := by omega
  have hw1 : w.heap.size ≤ g1 := by omega
  have hw2 : w.heap.size ≤ g2 := by omega
  have hwr : w.heap.size ≤ r0 := by omega
  rw [show w0.heap.size + 1 = g2 by omega, ← hg1e] at HF0 ⊢
  rw [show FArr w (((w0.drewN q).alloc (.cells #[.int .i64 0, .int .i64 0, .int .i64 0, .int .i64 0, .int .i64 0, .int .i64 0, .int .i64 0] 107)).alloc (.cells #[.int .i64 0, .int .i64 0, .int .i64 0, .int .i64 0, .int .i64 0, .int .i64 0, .int .i64 0] 107)) w.heap.size = FArr w (((w0.drewN q).alloc (.cells #[.int .i64 0, .int .i64 0, .int .i64 0, .int .i64 0, .int .i64 0, .int .i64 0, .int .i64 0] 107)).alloc (.cells #[.int .i64 0, .int .i64 0, .int .i64 0, .int .i64 0, .int .i64 0, .int .i64 0, .int .i64 0] 107)) r0 by rw [hr0e]] at HF0
  rw [show Addr.mk w.heap.size 0 none = Addr.mk r0 0 none by rw [hr0e]]
  clear hr0e hg2e hg1e hg1 hg2 HZ HB0 hzz
  generalize (((w0.drewN q).alloc (.cells #[.int .i64 0, .int .i64 0, .int .i64 0, .int .i64 0, .int .i64 0, .int .i64 0, .int .i64 0] 107)).alloc (.cells #[.int .i64 0, .int .i64 0, .int .i64 0, .int .i64 0, .int .i64 0, .int .i64 0, .int .i64 0] 107)) = w2 at *
  go_loopw [10] (fun i wr => ∃ k : Nat, k ≤ n ∧ i = .int .i64 (f + k) ∧ FArr w wr r0 g1 g2 xs f k) (fun i _ => (t + 1 - intOf i).toNat)
  case atStart => exact ⟨0, Nat.zero_le _, by go_num, HF0.out⟩
  case round =>
    obtain ⟨k, hk, rfl, hst⟩ := hrel
    have HS := Lib.hid hst
    by_cases hlt : k < n
    · have hle : f + k ≤ t := by omega
      obtain ⟨m, hm⟩ : ∃ m : Nat, (f + k) % 7 = m := ⟨((f + k) % 7).toNat, by omega⟩
      have hm7 : m < 7 := by omega
      have hmi : (m : Int) < 7 := by omega
      have HM := Lib.hid hm
      have hy := hst.yes.cells m hm7
      have hyf := hst.yes.free m
      have hno := hst.no.cells m hm7
      have hnof := hst.no.free m
      have l1 := fgN_le xs f true m k
      have l2 := fgN_le xs f false m k
      have HI1 := Lib.hid (IntsIn.at ((HI.out.at_below hst.bel).mono (Zone.below_le hst.bel.size)))
      clear hst hm
      cases hh : hasB xs (f + k)
      all_goals
        have HHH := Lib.hid hh
        clear hh
        skip
      · have HN1 := Lib.hid (HS.out.stepN HM.out hm7 HHH.out hw2 hgg hr2)
        have hm := HM.out
        go_wp2_with (go_at_call 76; refine (slicesContains_any _ _ _ _ _ HI1.out hn).mono ?_; rintro e w5 ⟨rfl, rfl⟩; rw [HHH.out])
        go_roundw
        case rel => exact ⟨k + 1, by omega, by go_num, HN1.out⟩
        case measure => simp [intOf]; omega
      · have HN1 := Lib.hid (HS.out.stepY HM.out hm7 HHH.out hw1 (fun e => hgg e.symm) hr1)
        have hm := HM.out
        go_wp2_with (go_at_call 76; refine (slicesContains_any _ _ _ _ _ HI1.out hn).mono ?_; rintro e w5 ⟨rfl, rfl⟩; rw [HHH.out])
        go_roundw
        case rel => exact ⟨k + 1, by omega, by go_num, HN1.out⟩
        case measure => simp [intOf]; omega
    · obtain rfl : k = n := by omega
      clear hst
      go_wp2_with fail
      have HC0 : Hid (FB (wr.alloc (.cells #[.int .i64 f, .int .i64 t, .int .i64 0, .slice none 0 0, .slice none 0 0] 24)) wr.heap.size f t (fwN xs f k 0 : Nat) (.slice none 0 0) (.slice none 0 0)) := Lib.hid ⟨by go_simp, by go_simp, by go_simp <;> rfl, by go_simp, by go_simp, fun j => by go_simp, by simp⟩
      have HS2 : Hid (FArr w (wr.alloc (.cells #[.int .i64 f, .int .i64 t, .int .i64 0, .slice none 0 0, .slice none 0 0] 24)) r0 g1 g2 xs f k) := Lib.hid (HS.out.call (by go_grown))
      have hz3 : r0 < wr.heap.size ∧ g1 < wr.heap.size ∧ g2 < wr.heap.size := ⟨HS.out.z.lt, HS.out.yes.lt, HS.out.no.lt⟩
      have hws := HS.out.bel.size
      obtain ⟨g3, hg3⟩ : ∃ g3, g3 = wr.heap.size := ⟨_, rfl⟩
      rw [← hg3] at HC0 hz3 hws ⊢
      obtain ⟨hzr, hz1, hz2⟩ := hz3
      generalize (wr.alloc (.cells #[.int .i64 f, .int .i64 t, .int .i64 0, .slice none 0 0, .slice none 0 0] 24)) = w3 at *
      clear hg3 HS
      go_loopw [66] (fun i wr => ∃ m : Nat, m ≤ 7 ∧ i = .int .i64 m ∧ FArr w wr r0 g1 g2 xs f k ∧ FB wr g3 f t (fwN xs f k m : Nat) (.slice none 0 0) (.slice none 0 0)) (fun i _ => 7 - (intOf i).toNat)
      case atStart => exact ⟨0, Nat.zero_le _, by go_num, HS2.out, HC0.out⟩
      case round =>
        obtain ⟨m, hm, rfl, hst, hc⟩ := hrel
        have HS := Lib.hid hst
        have HC := Lib.hid hc
        by_cases hm7 : m < 7
        · have hmi : (m : Int) < 7 := by omega
          have hy := hst.yes.cells m hm7
          have hno := hst.no.cells m hm7
          have l1 := fgN_le xs f true m k
          have l2 := fgN_le xs f false m k
          have hfw := fwN_lt xs f k m hm
          have hpw := pow_small hm7
          have hd2 := hc.c2
          have hdf := hc.fr 2
          clear hst hc
          by_cases tt : fgN xs f false m k < fgN xs f true m k
          · have HF := Lib.hid (fwN_yes tt)
            have tti : ((fgN xs f false m k : Nat) : Int) < ((fgN xs f true m k : Nat) : Int) := by omega
            go_wp2_with fail
            go_quiet (fail)
            have HOR := Lib.hid (or_pow (fwN xs f k m) m hfw hm7)
            go_wp2_with fail
            go_region
            rw [HOR.out]
            go_wp2_with fail
            go_roundw
            case rel => exact ⟨m + 1, by omega, by go_num, (HS.out.drewN _).off (p := ⟨g3, 2, none⟩) (Nat.ne_of_lt hz1) (Nat.ne_of_lt hz2) (Nat.ne_of_lt hzr) hws _, by rw [HF.out]; exact (HC.out.drewN _).setD _⟩
            case measure => simp [intOf]; omega
          · have HF := Lib.hid (fwN_no tt)
            have tti : ¬ ((fgN xs f false m k : Nat) : Int) < ((fgN xs f true m k : Nat) : Int) := by omega
            go_wp2_with fail
            go_quiet (fail)
            go_wp2_with fail
            go_roundw
            case rel => exact ⟨m + 1, by omega, by go_num, HS.out.drewN _, by rw [HF.out]; exact HC.out.drewN _⟩
            case measure => simp [intOf]; omega
        · obtain rfl : m = 7 := by omega
          clear hst hc
          go_wp2_with fail
          obtain ⟨D, hD⟩ : ∃ D, D = fwN xs f k 7 := ⟨_, rfl⟩
          have hD128 : D < 128 := by rw [hD]; exact fwN_lt xs f k 7 (Nat.le_refl _)
          have hD0 : (0 : Int) ≤ (D : Int) := by omega
          have hD1 : (D : Int) ≤ 127 := by omega
          have HD := Lib.hid hD
          have HC7 : Hid (FB wr g3 f t (D : Int) (.slice none 0 0) (.slice none 0 0)) := by rw [hD]; exact HC
          have HZ7 := Lib.hid HS.out.z
          have HB7 := Lib.hid HS.out.bel
          have HF7 : Hid (FSt wr wr.heap.size r0 g3 f t D (.slice none 0 0) (.slice none 0 0) [] []) := Lib.hid (FSt.zero HC7.out HZ7.out)
          clear hD HC HS
          obtain ⟨wo, rfl⟩ : ∃ wo : World, wo = wr := ⟨_, rfl⟩
          have hwo : w.heap.size ≤ wo.heap.size := HB7.out.size
          have hgr : r0 ≠ g3 := Nat.ne_of_lt hzr
          have hr0l : r0 < wo.heap.size := HZ7.out.lt
          go_loopw [13] (fun i wr => ∃ j : Nat, j ≤ k ∧ i = .int .i64 (f + j) ∧ (∃ va vb, FSt wr wo.heap.size r0 g3 f t D va vb (fxL xs f D true j) (fxL xs f D false j)) ∧ Below w.heap.size w wr ∧ wo.heap.size ≤ wr.heap.size) (fun i _ => (t + 1 - intOf i).toNat)
          case atStart => exact ⟨0, Nat.zero_le _, by go_num, ⟨_, _, HF7.out⟩, HB7.out, Nat.le_refl _⟩
          case round =>
            obtain ⟨j, hj, rfl, ⟨va, vb, hst⟩, hb, e2⟩ := hrel
            have HST := Lib.hid hst
            have HB := Lib.hid hb
            have HI1 := Lib.hid (IntsIn.at ((HI.out.at_below hb).mono (Zone.below_le hb.size)))
            have l1 := fxL_len xs f D true j
            have l2 := fxL_len xs f D false j
            by_cases hlt : j < k
            · have hle : f + j ≤ t := by omega
              have hd0 : 0 ≤ f + j := by omega
              have hd1 : f + j ≤ 3650 := by omega
              have hin : inB (f + j) f t = true := inB_iff.2 (by omega)
              obtain ⟨d0, d1, d2, d3, d4, d5, _⟩ := hst.c
              clear hst hb
              cases hh : hasB xs (f + j)
              · have e1 : (fxL xs f D false j).length ≤ 16777216 := by omega
                cases hw : wdB D (f + j)
                · skip
                  have HU := Lib.hid (fxL_no (xs := xs) (d := D) (b := true) (.inl (by rw [hh]; simp)))
                  have HV := Lib.hid (fxL_no (xs := xs) (d := D) (b := false) (.inr hw))
                  have hhf := hh
                  have hwf := hw
                  clear hh hw
                  go_wp2_with fail
                  refine (slicesContains_any _ _ _ _ _ HI1.out hn).mono ?_
                  rintro e w5 ⟨rfl, rfl⟩
                  rw [hhf]
                  go_wp2_with fail
                  refine (byWeekday_any _ _ _ hd0 hd1 hD0 hD1).mono ?_
                  rintro e w6 ⟨rfl, rfl⟩
                  rw [hwf]
                  go_wp2_with fail
                  refine ⟨?_, ?measure⟩
                  iterate 60 (try apply Exists.intro)
                  refine ⟨?rel, ?xx⟩
                  case xx => rfl
                  case rel => exact ⟨j + 1, by omega, by go_num, ⟨_, _, by rw [HU.out, HV.out]; exact HST.out⟩, HB.out, e2⟩
                  case measure => simp [intOf]; omega
                · skip
                  have HU := Lib.hid (fxL_no (xs := xs) (d := D) (b := true) (.inl (by rw [hh]; simp)))
                  have HV := Lib.hid (fxL_yes hh hw)
                  have hhf := hh
                  have hwf := hw
                  clear hh hw
                  go_wp2_with fail
                  refine (slicesContains_any _ _ _ _ _ HI1.out hn).mono ?_
                  rintro e w5 ⟨rfl, rfl⟩
                  rw [hhf]
                  go_wp2_with fail
                  refine (byWeekday_any _ _ _ hd0 hd1 hD0 hD1).mono ?_
                  rintro e w6 ⟨rfl, rfl⟩
                  rw [hwf]
                  go_wp2_with (at_builtin; go_loud (refine wp_appGI rfl _ _ rfl wo.heap.size _ (fxL xs f D false j) (f + j) _ HST.out.v rfl _ rfl (by simp) e1 e2 ?_; intro v' w' ho' hb' hs' hat' hz'; obtain ⟨A', n', c', rfl⟩ := OwnE.form ho'; have HN := Lib.hid (HST.out.addV hgr ho' hs' hat' hz'); have HB' := Lib.hid (HB.out.trans (hb'.mono hwo)); have q4 := (HST.out.c.kept (hs' g3 HST.out.c.lt HST.out.gb) hz').c4; have p4 := (HST.out.c.kept (hs' g3 HST.out.c.lt HST.out.gb) hz').fr 4; have hz8 := Nat.le_trans e2 hz'; clear ho' hb' hs' hat' hz'))
                  refine ⟨?_, ?measure⟩
                  iterate 60 (try apply Exists.intro)
                  refine ⟨?rel, ?xx⟩
                  case xx => rfl
                  case rel => exact ⟨j + 1, by omega, by go_num, ⟨_, _, by rw [HU.out, HV.out]; exact HN.out⟩, HB'.out.setCell (p := ⟨g3, 4, none⟩) hws _, by rw [size_set]; exact hz8⟩
                  case measure => simp [intOf]; omega
              · have e1 : (fxL xs f D true j).length ≤ 16777216 := by omega
                cases hw : wdB D (f + j)
                · skip
                  have HU := Lib.hid (fxL_yes hh hw)
                  have HV := Lib.hid (fxL_no (xs := xs) (d := D) (b := false) (.inl (by rw [hh]; simp)))
                  have hhf := hh
                  have hwf := hw
                  clear hh hw
                  go_wp2_with fail
                  refine (slicesContains_any _ _ _ _ _ HI1.out hn).mono ?_
                  rintro e w5 ⟨rfl, rfl⟩
                  rw [hhf]
                  go_wp2_with fail
                  refine (byWeekday_any _ _ _ hd0 hd1 hD0 hD1).mono ?_
                  rintro e w6 ⟨rfl, rfl⟩
                  rw [hwf]
                  go_wp2_with (at_builtin; go_loud (refine wp_appGI rfl _ _ rfl wo.heap.size _ (fxL xs f D true j) (f + j) _ HST.out.u rfl _ rfl (by simp) e1 e2 ?_; intro v' w' ho' hb' hs' hat' hz'; obtain ⟨A', n', c', rfl⟩ := OwnE.form ho'; have HN := Lib.hid (HST.out.addU hgr ho' hs' hat' hz'); have HB' := Lib.hid (HB.out.trans (hb'.mono hwo)); have q3 := (HST.out.c.kept (hs' g3 HST.out.c.lt HST.out.ga) hz').c3; have p3 := (HST.out.c.kept (hs' g3 HST.out.c.lt HST.out.ga) hz').fr 3; have hz8 := Nat.le_trans e2 hz'; clear ho' hb' hs' hat' hz'))
                  refine ⟨?_, ?measure⟩
                  iterate 60 (try apply Exists.intro)
                  refine ⟨?rel, ?xx⟩
                  case xx => rfl
                  case rel => exact ⟨j + 1, by omega, by go_num, ⟨_, _, by rw [HU.out, HV.out]; exact HN.out⟩, HB'.out.setCell (p := ⟨g3, 3, none⟩) hws _, by rw [size_set]; exact hz8⟩
                  case measure => simp [intOf]; omega
                · skip
                  have HU := Lib.hid (fxL_no (xs := xs) (d := D) (b := true) (.inr hw))
                  have HV := Lib.hid (fxL_no (xs := xs) (d := D) (b := false) (.inl (by rw [hh]; simp)))
                  have hhf := hh
                  have hwf := hw
                  clear hh hw
                  go_wp2_with fail
                  refine (slicesContains_any _ _ _ _ _ HI1.out hn).mono ?_
                  rintro e w5 ⟨rfl, rfl⟩
                  rw [hhf]
                  go_wp2_with fail
                  refine (byWeekday_any _ _ _ hd0 hd1 hD0 hD1).mono ?_
                  rintro e w6 ⟨rfl, rfl⟩
                  rw [hwf]
                  go_wp2_with fail
                  refine ⟨?_, ?measure⟩
                  iterate 60 (try apply Exists.intro)
                  refine ⟨?rel, ?xx⟩
                  case xx => rfl
                  case rel => exact ⟨j + 1, by omega, by go_num, ⟨_, _, by rw [HU.out, HV.out]; exact HST.out⟩, HB.out, e2⟩
                  case measure => simp [intOf]; omega
            · obtain rfl : j = k := by omega
              obtain ⟨A1, ca1, rfl, _, _, hi1⟩ := hst.u.ints
              obtain ⟨R1, cr1, rfl, _, _, hi2⟩ := hst.v.ints
              have HI2 := Lib.hid (IntsIn.at (hi1.to_below (Nat.le_refl _)))
              have HI3 := Lib.hid (IntsIn.at (hi2.to_below (Nat.le_refl _)))
              obtain ⟨d0, d1, d2, d3, d4, _, _⟩ := hst.c
              clear hi1 hi2 hb
              cases hcal : calB f t D (fxL xs f D true j) (fxL xs f D false j)
              · skip
                have HN := Lib.hid (fcB_no HNF.out HD.out hcal)
                go_wp2_with fail
                refine (isValidCalendar_any f t D _ _ _ _ (fxL xs f D true j) (fxL xs f D false j) _ HI2.out HI3.out (by omega) (by omega)).mono ?_
                rintro e w6 ⟨rfl, hb6⟩
                have HST6 := Lib.hid (HST.out.call hb6)
                have HB6 := Lib.hid (HB.out.trans (hb6.mono (Nat.le_trans hwo e2)))
                have hz6 := Nat.le_trans e2 hb6.size
                clear hb6 d0 d1 d2 d3 d4
                rw [hcal]
                obtain ⟨d0, d1, d2, d3, d4, d5, d6⟩ := HST6.out.c
                obtain ⟨z0, z1, z2, z3, z4, z5, z6⟩ := HST6.out.z
                go_wp2_with fail
                refine bodyPost_ret (v := .tuple #[.agg #[.int .i64 0, .int .i64 0, .int .i64 0, .slice none 0 0, .slice none 0 0], .bool false]) (by simp [results, Try.results17, go_sem, z0, z1, z2, z3, z4]) rfl ?_
                refine retCalN HN.out ?_
                repeat' (refine Below.setCell ?_ (by simpa using hwr) _)
                exact HB6.out
              · skip
                have HN := Lib.hid (fcB_yes HNF.out HD.out HH.out hcal)
                go_wp2_with fail
                refine (isValidCalendar_any f t D _ _ _ _ (fxL xs f D true j) (fxL xs f D false j) _ HI2.out HI3.out (by omega) (by omega)).mono ?_
                rintro e w6 ⟨rfl, hb6⟩
                have HST6 := Lib.hid (HST.out.call hb6)
                have HB6 := Lib.hid (HB.out.trans (hb6.mono (Nat.le_trans hwo e2)))
                have hz6 := Nat.le_trans e2 hb6.size
                clear hb6 d0 d1 d2 d3 d4
                rw [hcal]
                obtain ⟨d0, d1, d2, d3, d4, d5, d6⟩ := HST6.out.c
                obtain ⟨z0, z1, z2, z3, z4, z5, z6⟩ := HST6.out.z
                go_wp2_with fail
                refine bodyPost_ret (v := .tuple #[.agg #[.int .i64 f, .int .i64 t, .int .i64 D, .slice A1 (fxL xs f D true j).length ca1, .slice R1 (fxL xs f D false j).length cr1], .bool true]) (by simp [results, Try.results17, go_sem, z0, z1, z2, z3, z4]) rfl ?_
                have hcO := HST6.out.calO (lo := wo.heap.size) rfl rfl (Nat.le_refl _)
                refine retCalY HNF.out HD.out HN.out (lo := wo.heap.size) ?_ hwo ?_
                · simp only [size_set]
                  repeat' (refine CalO.set ?_ (by simpa using hr0l) _)
                  exact hcO
                · repeat' (refine Below.setCell ?_ (by simpa using hwr) _)
                  exact HB6.out
end Go.Proofs.Ytambgommeannnaa
