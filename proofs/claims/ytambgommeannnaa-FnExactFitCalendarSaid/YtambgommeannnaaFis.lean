/- FitCalendar: the reference's contract. -/
import Derived.Test.YtambgommeannnaaFiu
import Derived.Test.YtambgommeannnaaCalM
import Derived.BigQuiet
namespace Go.Proofs.Ytambgommeannnaa
open Go.ChangeShapes Go.WideShapes Go.ChangeAt Go.RowKit Go.PlainAid
set_option linter.unusedVariables false
set_option linter.unusedSimpArgs false

set_option maxRecDepth 100000 in
set_option maxHeartbeats 8000000 in
theorem specFit_any (A : Option Addr) (c : Nat) (xs : List Int) (f t : Int) (w : World) (h : IntsIn w (Zone.below w.heap.size) A xs) (hn : xs.length ≤ 1048576) :
    Calls Try.prog 15 #[.int .i64 f, .int .i64 t, .slice A xs.length c] w (RetCal (fcI xs f t f) (fcI xs f t t) (fcI xs f t (fcD0 xs f t)) (fcX xs f t true) (fcX xs f t false) (fcB xs f t) w) := by
  have hb0 : Below w.heap.size w (w.alloc (.cells #[.int .i64 0, .int .i64 0, .int .i64 0, .slice none 0 0, .slice none 0 0] 24)) := by go_grown
  have HB0 := Lib.hid hb0
  have HI := Lib.hid h
  have HI0 := Lib.hid (IntsIn.at (h.call hb0))
  have HZ : Hid (FB (w.alloc (.cells #[.int .i64 0, .int .i64 0, .int .i64 0, .slice none 0 0, .slice none 0 0] 24)) w.heap.size 0 0 0 (.slice none 0 0) (.slice none 0 0)) := Lib.hid ⟨by go_simp, by go_simp, by go_simp, by go_simp, by go_simp, fun j => by go_simp, by simp⟩
  have hzz : w.heap.size < (w.alloc (.cells #[.int .i64 0, .int .i64 0, .int .i64 0, .slice none 0 0, .slice none 0 0] 24)).heap.size := by simp
  clear h hb0
  cases b1 : inB f 0 3650
  · skip
    have HN := Lib.hid (fcB_h (xs := xs) (f := f) (t := t) (by unfold fcH; rw [b1]; rfl))
    go_enter Try.func15, Try.ntmps15
    go_wp2_with fail
    generalize (w.alloc (.cells #[.int .i64 0, .int .i64 0, .int .i64 0, .slice none 0 0, .slice none 0 0] 24)) = w0 at *
    obtain ⟨z0, z1, z2, z3, z4, z5, z6⟩ := HZ.out
    go_wp2_with (first | (go_at_call 68; refine (l3Day_any _ _).mono ?_; rintro e wd ⟨rfl, rfl⟩) | (go_at_call 69; refine (l1In_any _ _ _ _).mono ?_; rintro e wd ⟨rfl, rfl⟩) | (go_at_call 70; refine (l1Rising_any _ _ _ _ _ _ HI0.out hn).mono ?_; rintro e w1 ⟨rfl, q, rfl⟩))
    refine bodyPost_ret (v := .tuple #[.agg #[.int .i64 0, .int .i64 0, .int .i64 0, .slice none 0 0, .slice none 0 0], .bool false]) (by simp [results, Try.results15, go_sem, z0, z1, z2, z3, z4]) rfl ?_
    refine retCalN HN.out ?_
    repeat' (refine Below.setCell ?_ (by simp) _)
    exact HB0.out
  cases b2 : inB t 0 3650
  · skip
    have HN := Lib.hid (fcB_h (xs := xs) (f := f) (t := t) (by unfold fcH; rw [b1, b2]; rfl))
    go_enter Try.func15, Try.ntmps15
    go_wp2_with fail
    generalize (w.alloc (.cells #[.int .i64 0, .int .i64 0, .int .i64 0, .slice none 0 0, .slice none 0 0] 24)) = w0 at *
    obtain ⟨z0, z1, z2, z3, z4, z5, z6⟩ := HZ.out
    go_wp2_with (first | (go_at_call 68; refine (l3Day_any _ _).mono ?_; rintro e wd ⟨rfl, rfl⟩) | (go_at_call 69; refine (l1In_any _ _ _ _).mono ?_; rintro e wd ⟨rfl, rfl⟩) | (go_at_call 70; refine (l1Rising_any _ _ _ _ _ _ HI0.out hn).mono ?_; rintro e w1 ⟨rfl, q, rfl⟩))
    refine bodyPost_ret (v := .tuple #[.agg #[.int .i64 0, .int .i64 0, .int .i64 0, .slice none 0 0, .slice none 0 0], .bool false]) (by simp [results, Try.results15, go_sem, z0, z1, z2, z3, z4]) rfl ?_
    refine retCalN HN.out ?_
    repeat' (refine Below.setCell ?_ (by simp) _)
    exact HB0.out
  have i1 := inB_iff.1 b1
  have i2 := inB_iff.1 b2
  cases b3 : inB (t - f) 0 200
  · skip
    have HN := Lib.hid (fcB_h (xs := xs) (f := f) (t := t) (by unfold fcH; rw [b1, b2, b3]; rfl))
    go_enter Try.func15, Try.ntmps15
    go_wp2_with fail
    generalize (w.alloc (.cells #[.int .i64 0, .int .i64 0, .int .i64 0, .slice none 0 0, .slice none 0 0] 24)) = w0 at *
    obtain ⟨z0, z1, z2, z3, z4, z5, z6⟩ := HZ.out
    go_wp2_with (first | (go_at_call 68; refine (l3Day_any _ _).mono ?_; rintro e wd ⟨rfl, rfl⟩) | (go_at_call 69; refine (l1In_any _ _ _ _).mono ?_; rintro e wd ⟨rfl, rfl⟩) | (go_at_call 70; refine (l1Rising_any _ _ _ _ _ _ HI0.out hn).mono ?_; rintro e w1 ⟨rfl, q, rfl⟩))
    refine bodyPost_ret (v := .tuple #[.agg #[.int .i64 0, .int .i64 0, .int .i64 0, .slice none 0 0, .slice none 0 0], .bool false]) (by simp [results, Try.results15, go_sem, z0, z1, z2, z3, z4]) rfl ?_
    refine retCalN HN.out ?_
    repeat' (refine Below.setCell ?_ (by simp) _)
    exact HB0.out
  have i3 := inB_iff.1 b3
  have c1 : ¬ t < f := by omega
  have c2 : ¬ 200 < t - f := by omega
  cases b4 : riseB xs f t
  · skip
    have HN := Lib.hid (fcB_h (xs := xs) (f := f) (t := t) (by unfold fcH; rw [b1, b2, b3, b4]; rfl))
    go_enter Try.func15, Try.ntmps15
    go_wp2_with fail
    generalize (w.alloc (.cells #[.int .i64 0, .int .i64 0, .int .i64 0, .slice none 0 0, .slice none 0 0] 24)) = w0 at *
    obtain ⟨z0, z1, z2, z3, z4, z5, z6⟩ := HZ.out
    go_wp2_with (first | (go_at_call 68; refine (l3Day_any _ _).mono ?_; rintro e wd ⟨rfl, rfl⟩) | (go_at_call 69; refine (l1In_any _ _ _ _).mono ?_; rintro e wd ⟨rfl, rfl⟩) | (go_at_call 70; refine (l1Rising_any _ _ _ _ _ _ HI0.out hn).mono ?_; rintro e w1 ⟨rfl, q, rfl⟩))
    refine bodyPost_ret (v := .tuple #[.agg #[.int .i64 0, .int .i64 0, .int .i64 0, .slice none 0 0, .slice none 0 0], .bool false]) (by simp [results, Try.results15, go_sem, z0, z1, z2, z3, z4]) rfl ?_
    refine retCalN HN.out ?_
    repeat' (refine Below.setCell ?_ (by simp) _)
    exact bel_drewN HB0.out q
  have HH : Hid (fcH xs f t = true) := Lib.hid (by unfold fcH; rw [b1, b2, b3, b4]; rfl)
  obtain ⟨k, hn0⟩ : ∃ n : Nat, n = fcN f t := ⟨_, rfl⟩
  have HNF := Lib.hid hn0
  have n1 : f + k ≤ t + 1 := by rw [hn0]; unfold fcN; omega
  have n2 : t + 1 ≤ f + k := by rw [hn0]; unfold fcN; omega
  have n3 : k ≤ 201 := by omega
  clear hn0
  go_enter Try.func15, Try.ntmps15
  go_wp2_with fail
  generalize (w.alloc (.cells #[.int .i64 0, .int .i64 0, .int .i64 0, .slice none 0 0, .slice none 0 0] 24)) = w0 at *
  go_wp2_with (first | (go_at_call 68; refine (l3Day_any _ _).mono ?_; rintro e wd ⟨rfl, rfl⟩) | (go_at_call 69; refine (l1In_any _ _ _ _).mono ?_; rintro e wd ⟨rfl, rfl⟩) | (go_at_call 70; refine (l1Rising_any _ _ _ _ _ _ HI0.out hn).mono ?_; rintro e w1 ⟨rfl, q, rfl⟩))
  have HS0 : Hid (FSt ((((w0.drewN q).alloc (.cells #[] 3)).alloc (.cells #[] 3)).alloc (.cells #[.int .i64 f, .int .i64 t, .int .i64 0, .slice (some ⟨w0.heap.size, 0, none⟩) 0 0, .slice (some ⟨w0.heap.size + 1, 0, none⟩) 0 0] 24)) (w.heap.size + 1) w.heap.size (w0.heap.size + 2) f t (fwN xs f k 0 : Nat) (.slice (some ⟨w0.heap.size, 0, none⟩) 0 0) (.slice (some ⟨w0.heap.size + 1, 0, none⟩) 0 0) [] []) := Lib.hid
    ⟨⟨by go_simp, by go_simp, by go_simp <;> rfl, by go_simp, by go_simp, fun j => by go_simp, by simp⟩,
      HZ.out.below (B := w0.heap.size) ((((bel_drewN (Below.refl w0.heap.size w0) q).alloc (Nat.le_refl _) _).alloc (by simp) _).alloc (by simp <;> omega) _) hzz,
      ((OwnE.empty (e := 3) (m := 1) (enc := encI) (B := w.heap.size + 1) (w := w0.drewN q) hzz).alloc _).alloc _,
      (by simpa using (OwnE.empty (e := 3) (m := 1) (enc := encI) (B := w.heap.size + 1) (w := (w0.drewN q).alloc (.cells #[] 3)) (by simp; omega)).alloc (.cells #[.int .i64 f, .int .i64 t, .int .i64 0, .slice (some ⟨w0.heap.size, 0, none⟩) 0 0, .slice (some ⟨w0.heap.size + 1, 0, none⟩) 0 0] 24)),
      fun X hX e => by simp [Value.ownBlock] at hX e; omega, by simp [Value.ownBlock], by simp [Value.ownBlock], by simp [Value.ownBlock]; omega, by simp [Value.ownBlock]; omega⟩
  have HB1 : Hid (Below w.heap.size w ((((w0.drewN q).alloc (.cells #[] 3)).alloc (.cells #[] 3)).alloc (.cells #[.int .i64 f, .int .i64 t, .int .i64 0, .slice (some ⟨w0.heap.size, 0, none⟩) 0 0, .slice (some ⟨w0.heap.size + 1, 0, none⟩) 0 0] 24))) := Lib.hid (HB0.out.trans (((((bel_drewN (Below.refl w0.heap.size w0) q).alloc (Nat.le_refl _) _).alloc (by simp) _).alloc (by simp <;> omega) _).mono HB0.out.size))
  have hlo1 : w.heap.size + 1 ≤ w0.heap.size := hzz
  rw [show w0.heap.size + 1 + 1 = w0.heap.size + 2 from rfl]
  have hg3w : w.heap.size < w0.heap.size + 2 := by omega
  obtain ⟨s2, hs2⟩ : ∃ s2, s2 = w0.heap.size + 1 := ⟨_, rfl⟩
  obtain ⟨g3, hg3⟩ : ∃ g3, g3 = w0.heap.size + 2 := ⟨_, rfl⟩
  rw [← hg3] at HS0 hg3w
  generalize hWS : ((((w0.drewN q).alloc (.cells #[] 3)).alloc (.cells #[] 3)).alloc (.cells #[.int .i64 f, .int .i64 t, .int .i64 0, .slice (some ⟨w0.heap.size, 0, none⟩) 0 0, .slice (some ⟨w0.heap.size + 1, 0, none⟩) 0 0] 24)) = w2 at *
  clear hWS
  have HZL : Hid (w.heap.size < g3) := Lib.hid hg3w
  rw [← hg3]
  rw [← hs2] at HS0
  have HIV : Hid (s2 = w0.heap.size + 1) := Lib.hid hs2
  obtain ⟨r0, hr0⟩ : ∃ r0, r0 = w.heap.size := ⟨_, rfl⟩
  have hws : w.heap.size ≤ g3 := by omega
  have hwr : w.heap.size ≤ r0 := by omega
  have hgr : r0 ≠ g3 := by omega
  have hzr : r0 < g3 := by omega
  have hr0s : r0 < w.heap.size + 1 := by omega
  have HS0' : Hid (FSt w2 (w.heap.size + 1) r0 g3 f t (fwN xs f k 0 : Nat) (.slice (some ⟨w0.heap.size, 0, none⟩) 0 0) (.slice (some ⟨s2, 0, none⟩) 0 0) [] []) := by rw [hr0]; exact HS0
  rw [show Addr.mk w.heap.size 0 none = Addr.mk r0 0 none by rw [hr0]]
  clear HS0 hr0 hg3 hs2 hg3w
  go_loopw [9] (fun i wr => ∃ m : Nat, m ≤ 7 ∧ i = .int .i64 m ∧ FSt wr (w.heap.size + 1) r0 g3 f t (fwN xs f k m : Nat) (.slice (some ⟨w0.heap.size, 0, none⟩) 0 0) (.slice (some ⟨s2, 0, none⟩) 0 0) [] [] ∧ Below w.heap.size w wr) (fun i _ => 7 - (intOf i).toNat)
  case atStart => exact ⟨0, Nat.zero_le _, by go_num, HS0'.out, HB1.out⟩
  case round =>
    obtain ⟨m, hm, rfl, hst, hb⟩ := hrel
    have HS := Lib.hid hst
    have HB := Lib.hid hb
    have hzw := hb.size
    clear hst hb
    by_cases hm7 : m < 7
    · have hmi : (m : Int) < 7 := by omega
      go_wp2_with fail
      obtain ⟨wo, rfl⟩ : ∃ wo : World, wo = wr := ⟨_, rfl⟩
      go_loopw [10, 11, 12] (fun a b i wr => ∃ j : Nat, j ≤ k ∧ i = .int .i64 (f + j) ∧ a = .int .i64 ((fgN xs f true m j : Nat) : Int) ∧ b = .int .i64 (((fgN xs f true m j : Nat) : Int) + ((fgN xs f false m j : Nat) : Int)) ∧ wo = wr) (fun _ _ i _ => (t + 1 - intOf i).toNat)
      case atStart => exact ⟨0, Nat.zero_le _, by go_num, rfl, rfl, rfl⟩
      case round =>
        obtain ⟨j, hj, rfl, rfl, rfl, rfl⟩ := hrel
        have l1 := fgN_le xs f true m j
        have l2 := fgN_le xs f false m j
        by_cases hlt : j < k
        · have hle : f + j ≤ t := by omega
          have hfj0 : 0 ≤ f + j := by omega
          by_cases hmm : (f + j) % 7 = m
          · have hne : ((f + j) % 7 == (m : Int)) = true := by rw [hmm]; simp
            have HI1 := Lib.hid (IntsIn.at ((HI.out.at_below HB.out).mono (Zone.below_le HB.out.size)))
            cases hh : hasB xs (f + j)
            · have HT := Lib.hid (fgN_not (f := f) (b := true) (m := m) (k := j) (by rw [hh]; simp))
              have HF := Lib.hid (fgN_yes (xs := xs) hmm hh)
              have hhf := hh
              clear hh
              go_wp2_with (go_at_call 71; refine (l1Has_any _ _ _ _ _ HI1.out hn).mono ?_; rintro e w5 ⟨rfl, rfl⟩; rw [hhf])
              go_roundw
              case rel => exact ⟨j + 1, by omega, by go_num, by rw [HT.out], by rw [HT.out, HF.out]; push_cast; exact congrArg _ (by omega), trivial⟩
              case measure => simp [intOf]; omega
            · have HF := Lib.hid (fgN_not (f := f) (b := false) (m := m) (k := j) (by rw [hh]; simp))
              have HT := Lib.hid (fgN_yes (xs := xs) hmm hh)
              have hhf := hh
              clear hh
              go_wp2_with (go_at_call 71; refine (l1Has_any _ _ _ _ _ HI1.out hn).mono ?_; rintro e w5 ⟨rfl, rfl⟩; rw [hhf])
              go_roundw
              case rel => exact ⟨j + 1, by omega, by go_num, by rw [HT.out]; push_cast; rfl, by rw [HT.out, HF.out]; push_cast; exact congrArg _ (by omega), trivial⟩
              case measure => simp [intOf]; omega
          · have hne : ((f + j) % 7 == (m : Int)) = false := by simpa using hmm
            have HT := Lib.hid (fgN_off (xs := xs) (b := true) hmm)
            have HF := Lib.hid (fgN_off (xs := xs) (b := false) hmm)
            go_wp2_with fail
            go_roundw
            case rel => exact ⟨j + 1, by omega, by go_num, by rw [HT.out], by rw [HT.out, HF.out], trivial⟩
            case measure => simp [intOf]; omega
        · obtain rfl : j = k := by omega
          obtain ⟨d0, d1, d2, d3, d4, d5, d6⟩ := HS.out.c
          have hfw := fwN_lt xs f j m hm
          by_cases tt : fgN xs f false m j < fgN xs f true m j
          · have HF := Lib.hid (fwN_yes tt)
            have tti : ((fgN xs f true m j : Nat) : Int) + ((fgN xs f false m j : Nat) : Int) < 2 * ((fgN xs f true m j : Nat) : Int) := by omega
            have HOR := Lib.hid (or_pow (fwN xs f j m) m hfw hm7)
            go_wp2_with fail
            rw [HOR.out]
            go_roundw
            case rel => exact ⟨m + 1, by omega, by go_num, by rw [HF.out]; exact HS.out.setD hgr _, HB.out.setCell (p := ⟨g3, 2, none⟩) hws _⟩
            case measure => simp [intOf]; omega
          · have HF := Lib.hid (fwN_no tt)
            have tti : ¬ ((fgN xs f true m j : Nat) : Int) + ((fgN xs f false m j : Nat) : Int) < 2 * ((fgN xs f true m j : Nat) : Int) := by omega
            go_wp2_with fail
            go_roundw
            case rel => exact ⟨m + 1, by omega, by go_num, by rw [HF.out]; exact HS.out, HB.out⟩
            case measure => simp [intOf]; omega
    · obtain rfl : m = 7 := by omega
      go_wp2_with fail
      obtain ⟨D, hD⟩ : ∃ D, D = fwN xs f k 7 := ⟨_, rfl⟩
      have hD128 : D < 128 := by rw [hD]; exact fwN_lt xs f k 7 (Nat.le_refl _)
      have hD0 : (0 : Int) ≤ (D : Int) := by omega
      have hD1 : (D : Int) ≤ 127 := by omega
      have HD := Lib.hid hD
      have HF7 : Hid (FSt wr (w.heap.size + 1) r0 g3 f t D (.slice (some ⟨w0.heap.size, 0, none⟩) 0 0) (.slice (some ⟨s2, 0, none⟩) 0 0) [] []) := by rw [hD]; exact HS
      have HB7 := HB
      have HZ7 := Lib.hid HF7.out.z
      clear hD HB HS
      obtain ⟨wo, rfl⟩ : ∃ wo : World, wo = wr := ⟨_, rfl⟩
      have hwo : w.heap.size ≤ wo.heap.size := HB7.out.size
      have hgr : r0 ≠ g3 := Nat.ne_of_lt hzr
      have hw1 : w.heap.size + 1 ≤ wo.heap.size := by have := HZ7.out.lt; omega
      have hr0l : r0 < wo.heap.size := HZ7.out.lt
      go_loopw [13] (fun i wr => ∃ j : Nat, j ≤ k ∧ i = .int .i64 (f + j) ∧ (∃ va vb, FSt wr (w.heap.size + 1) r0 g3 f t D va vb (fxL xs f D true j) (fxL xs f D false j)) ∧ Below w.heap.size w wr ∧ wo.heap.size ≤ wr.heap.size) (fun i _ => (t + 1 - intOf i).toNat)
      case atStart => exact ⟨0, Nat.zero_le _, by go_num, ⟨_, _, HF7.out⟩, HB7.out, Nat.le_refl _⟩
      case round =>
        obtain ⟨j, hj, rfl, ⟨va, vb, hst⟩, hb, e2⟩ := hrel
        obtain ⟨Aa, na, ca, rfl⟩ := OwnE.form hst.u
        obtain ⟨Ab, nb, cb, rfl⟩ := OwnE.form hst.v
        have HST := Lib.hid hst
        have HB := Lib.hid hb
        have HI1 := Lib.hid (IntsIn.at ((HI.out.at_below hb).mono (Zone.below_le hb.size)))
        have l1 := fxL_len xs f D true j
        have l2 := fxL_len xs f D false j
        by_cases hlt : j < k
        · have hle : f + j ≤ t := by omega
          have hd0 : 0 ≤ f + j := by omega
          have hd1 : f + j ≤ 3650 := by omega
          have hin : inB (f + j) f t = true := inB_iff.2 (by omega)
          obtain ⟨d0, d1, d2, d3, d4, d5, _⟩ := hst.c
          clear hst hb
          cases hh : hasB xs (f + j)
          · have e1 : (fxL xs f D false j).length ≤ 16777216 := by omega
            cases hw : wdB D (f + j)
            · skip
              have HU := Lib.hid (fxL_no (xs := xs) (d := D) (b := true) (.inl (by rw [hh]; simp)))
              have HV := Lib.hid (fxL_no (xs := xs) (d := D) (b := false) (.inr hw))
              have hhf := hh
              have hwf := hw
              clear hh hw
              go_wp2_with (go_at_call 71; refine (l1Has_any _ _ _ _ _ HI1.out hn).mono ?_; rintro e w5 ⟨rfl, rfl⟩; rw [hhf])
              refine (l3Regular_in f t D _ _ _ _ _ _ _ _ hin hd0 hd1 hD0 hD1).mono ?_
              rintro e w6 ⟨rfl, hb6⟩
              rw [hwf]
              have HST6 := Lib.hid (HST.out.call hb6)
              have HB6 := Lib.hid (HB.out.trans (hb6.mono (Nat.le_trans hwo e2)))
              have hz6 := Nat.le_trans e2 hb6.size
              have HI6 := Lib.hid (IntsIn.at ((HI.out.at_below HB6.out).mono (Zone.below_le HB6.out.size)))
              clear hb6 d2 d3 d4 d5 d0 d1
              obtain ⟨d0, d1, d2, d3, d4, d5, d6⟩ := HST6.out.c
              have e3 : w.heap.size + 1 ≤ w6.heap.size := Nat.le_trans hw1 hz6
              go_wp2_with (go_at_call 71; refine (l1Has_any _ _ _ _ _ HI6.out hn).mono ?_; rintro e w5 ⟨rfl, rfl⟩; rw [hhf])
              refine ⟨?_, ?measure⟩
              iterate 60 (try apply Exists.intro)
              refine ⟨?rel, ?xx⟩
              case xx => rfl
              case rel => exact ⟨j + 1, by omega, by go_num, ⟨_, _, by rw [HU.out, HV.out]; exact HST6.out⟩, HB6.out, hz6⟩
              case measure => simp [intOf]; omega
            · skip
              have HU := Lib.hid (fxL_no (xs := xs) (d := D) (b := true) (.inl (by rw [hh]; simp)))
              have HV := Lib.hid (fxL_yes hh hw)
              have hhf := hh
              have hwf := hw
              clear hh hw
              go_wp2_with (go_at_call 71; refine (l1Has_any _ _ _ _ _ HI1.out hn).mono ?_; rintro e w5 ⟨rfl, rfl⟩; rw [hhf])
              refine (l3Regular_in f t D _ _ _ _ _ _ _ _ hin hd0 hd1 hD0 hD1).mono ?_
              rintro e w6 ⟨rfl, hb6⟩
              rw [hwf]
              have HST6 := Lib.hid (HST.out.call hb6)
              have HB6 := Lib.hid (HB.out.trans (hb6.mono (Nat.le_trans hwo e2)))
              have hz6 := Nat.le_trans e2 hb6.size
              have HI6 := Lib.hid (IntsIn.at ((HI.out.at_below HB6.out).mono (Zone.below_le HB6.out.size)))
              clear hb6 d2 d3 d4 d5 d0 d1
              obtain ⟨d0, d1, d2, d3, d4, d5, d6⟩ := HST6.out.c
              have e3 : w.heap.size + 1 ≤ w6.heap.size := Nat.le_trans hw1 hz6
              go_wp2_with (at_builtin; refine wp_appGI rfl _ _ rfl (w.heap.size + 1) _ (fxL xs f D false j) (f + j) _ HST6.out.v rfl _ rfl (by simp) e1 e3 ?_; intro v' w' ho' hb' hs' hat' hz'; obtain ⟨A', n', c', rfl⟩ := OwnE.form ho'; have HN := Lib.hid (HST6.out.addV hgr ho' hs' hat' hz'); have HB' := Lib.hid (HB6.out.trans (hb'.mono (Nat.le_succ _))); have q4 := (HST6.out.c.kept (hs' g3 HST6.out.c.lt HST6.out.gb) hz').c4; have p4 := (HST6.out.c.kept (hs' g3 HST6.out.c.lt HST6.out.gb) hz').fr 4; have hz8 := Nat.le_trans hz6 hz'; clear ho' hb' hs' hat' hz')
              refine ⟨?_, ?measure⟩
              iterate 60 (try apply Exists.intro)
              refine ⟨?rel, ?xx⟩
              case xx => rfl
              case rel => exact ⟨j + 1, by omega, by go_num, ⟨_, _, by rw [HU.out, HV.out]; exact HN.out⟩, HB'.out.setCell (p := ⟨g3, 4, none⟩) hws _, by rw [size_set]; exact hz8⟩
              case measure => simp [intOf]; omega
          · have e1 : (fxL xs f D true j).length ≤ 16777216 := by omega
            cases hw : wdB D (f + j)
            · skip
              have HU := Lib.hid (fxL_yes hh hw)
              have HV := Lib.hid (fxL_no (xs := xs) (d := D) (b := false) (.inl (by rw [hh]; simp)))
              have hhf := hh
              have hwf := hw
              clear hh hw
              go_wp2_with (go_at_call 71; refine (l1Has_any _ _ _ _ _ HI1.out hn).mono ?_; rintro e w5 ⟨rfl, rfl⟩; rw [hhf])
              refine (l3Regular_in f t D _ _ _ _ _ _ _ _ hin hd0 hd1 hD0 hD1).mono ?_
              rintro e w6 ⟨rfl, hb6⟩
              rw [hwf]
              have HST6 := Lib.hid (HST.out.call hb6)
              have HB6 := Lib.hid (HB.out.trans (hb6.mono (Nat.le_trans hwo e2)))
              have hz6 := Nat.le_trans e2 hb6.size
              have HI6 := Lib.hid (IntsIn.at ((HI.out.at_below HB6.out).mono (Zone.below_le HB6.out.size)))
              clear hb6 d2 d3 d4 d5 d0 d1
              obtain ⟨d0, d1, d2, d3, d4, d5, d6⟩ := HST6.out.c
              have e3 : w.heap.size + 1 ≤ w6.heap.size := Nat.le_trans hw1 hz6
              go_wp2_with (at_builtin; refine wp_appGI rfl _ _ rfl (w.heap.size + 1) _ (fxL xs f D true j) (f + j) _ HST6.out.u rfl _ rfl (by simp) e1 e3 ?_; intro v' w' ho' hb' hs' hat' hz'; obtain ⟨A', n', c', rfl⟩ := OwnE.form ho'; have HN := Lib.hid (HST6.out.addU hgr ho' hs' hat' hz'); have HB' := Lib.hid (HB6.out.trans (hb'.mono (Nat.le_succ _))); have q3 := (HST6.out.c.kept (hs' g3 HST6.out.c.lt HST6.out.ga) hz').c3; have p3 := (HST6.out.c.kept (hs' g3 HST6.out.c.lt HST6.out.ga) hz').fr 3; have hz8 := Nat.le_trans hz6 hz'; clear ho' hb' hs' hat' hz')
              refine ⟨?_, ?measure⟩
              iterate 60 (try apply Exists.intro)
              refine ⟨?rel, ?xx⟩
              case xx => rfl
              case rel => exact ⟨j + 1, by omega, by go_num, ⟨_, _, by rw [HU.out, HV.out]; exact HN.out⟩, HB'.out.setCell (p := ⟨g3, 3, none⟩) hws _, by rw [size_set]; exact hz8⟩
              case measure => simp [intOf]; omega
            · skip
              have HU := Lib.hid (fxL_no (xs := xs) (d := D) (b := true) (.inr hw))
              have HV := Lib.hid (fxL_no (xs := xs) (d := D) (b := false) (.inl (by rw [hh]; simp)))
              have hhf := hh
              have hwf := hw
              clear hh hw
              go_wp2_with (go_at_call 71; refine (l1Has_any _ _ _ _ _ HI1.out hn).mono ?_; rintro e w5 ⟨rfl, rfl⟩; rw [hhf])
              refine (l3Regular_in f t D _ _ _ _ _ _ _ _ hin hd0 hd1 hD0 hD1).mono ?_
              rintro e w6 ⟨rfl, hb6⟩
              rw [hwf]
              have HST6 := Lib.hid (HST.out.call hb6)
              have HB6 := Lib.hid (HB.out.trans (hb6.mono (Nat.le_trans hwo e2)))
              have hz6 := Nat.le_trans e2 hb6.size
              have HI6 := Lib.hid (IntsIn.at ((HI.out.at_below HB6.out).mono (Zone.below_le HB6.out.size)))
              clear hb6 d2 d3 d4 d5 d0 d1
              obtain ⟨d0, d1, d2, d3, d4, d5, d6⟩ := HST6.out.c
              have e3 : w.heap.size + 1 ≤ w6.heap.size := Nat.le_trans hw1 hz6
              go_wp2_with (go_at_call 71; refine (l1Has_any _ _ _ _ _ HI6.out hn).mono ?_; rintro e w5 ⟨rfl, rfl⟩; rw [hhf])
              refine ⟨?_, ?measure⟩
              iterate 60 (try apply Exists.intro)
              refine ⟨?rel, ?xx⟩
              case xx => rfl
              case rel => exact ⟨j + 1, by omega, by go_num, ⟨_, _, by rw [HU.out, HV.out]; exact HST6.out⟩, HB6.out, hz6⟩
              case measure => simp [intOf]; omega
        · obtain rfl : j = k := by omega
          obtain ⟨A1, ca1, he1, _, _, hi1⟩ := hst.u.ints
          obtain ⟨R1, cr1, he2, _, _, hi2⟩ := hst.v.ints
          simp only [Value.slice.injEq] at he1 he2
          obtain ⟨rfl, rfl, rfl⟩ := he1
          obtain ⟨rfl, rfl, rfl⟩ := he2
          have HI2 := Lib.hid (IntsIn.at (hi1.to_below (Nat.le_refl _)))
          have HI3 := Lib.hid (IntsIn.at (hi2.to_below (Nat.le_refl _)))
          obtain ⟨d0, d1, d2, d3, d4, _, _⟩ := hst.c
          clear hi1 hi2 hb
          cases hcal : calB f t D (fxL xs f D true j) (fxL xs f D false j)
          · skip
            have HN := Lib.hid (fcB_no HNF.out HD.out hcal)
            go_wp2_with fail
            refine (l3Good_any f t D _ _ _ _ (fxL xs f D true j) (fxL xs f D false j) _ HI2.out HI3.out (by omega) (by omega)).mono ?_
            rintro e w6 ⟨rfl, hb6⟩
            have HST6 := Lib.hid (HST.out.call hb6)
            have HB6 := Lib.hid (HB.out.trans (hb6.mono (Nat.le_trans hwo e2)))
            have hz6 := Nat.le_trans e2 hb6.size
            clear hb6 d0 d1 d2 d3 d4
            rw [hcal]
            obtain ⟨d0, d1, d2, d3, d4, d5, d6⟩ := HST6.out.c
            obtain ⟨z0, z1, z2, z3, z4, z5, z6⟩ := HST6.out.z
            go_wp2_with fail
            refine bodyPost_ret (v := .tuple #[.agg #[.int .i64 0, .int .i64 0, .int .i64 0, .slice none 0 0, .slice none 0 0], .bool false]) (by simp [results, Try.results15, go_sem, z0, z1, z2, z3, z4]) rfl ?_
            refine retCalN HN.out ?_
            repeat' (refine Below.setCell ?_ (by simpa using hwr) _)
            exact HB6.out
          · skip
            have HN := Lib.hid (fcB_yes HNF.out HD.out HH.out hcal)
            go_wp2_with fail
            refine (l3Good_any f t D _ _ _ _ (fxL xs f D true j) (fxL xs f D false j) _ HI2.out HI3.out (by omega) (by omega)).mono ?_
            rintro e w6 ⟨rfl, hb6⟩
            have HST6 := Lib.hid (HST.out.call hb6)
            have HB6 := Lib.hid (HB.out.trans (hb6.mono (Nat.le_trans hwo e2)))
            have hz6 := Nat.le_trans e2 hb6.size
            clear hb6 d0 d1 d2 d3 d4
            rw [hcal]
            obtain ⟨d0, d1, d2, d3, d4, d5, d6⟩ := HST6.out.c
            obtain ⟨z0, z1, z2, z3, z4, z5, z6⟩ := HST6.out.z
            go_wp2_with fail
            refine bodyPost_ret (v := .tuple #[.agg #[.int .i64 f, .int .i64 t, .int .i64 D, .slice Aa (fxL xs f D true j).length ca, .slice Ab (fxL xs f D false j).length cb], .bool true]) (by simp [results, Try.results15, go_sem, z0, z1, z2, z3, z4]) rfl ?_
            have hcO := HST6.out.calO (lo := w.heap.size + 1) rfl rfl (Nat.le_refl _)
            refine retCalY HNF.out HD.out HN.out (lo := w.heap.size + 1) ?_ (Nat.le_succ _) ?_
            · simp only [size_set]
              repeat' (refine CalO.set ?_ (by simpa using hr0s) _)
              exact hcO
            · repeat' (refine Below.setCell ?_ (by simpa using hwr) _)
              exact HB6.out
end Go.Proofs.Ytambgommeannnaa
