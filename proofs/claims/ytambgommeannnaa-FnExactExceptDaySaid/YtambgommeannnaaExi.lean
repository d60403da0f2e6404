/- ExceptDay: the program's contract. -/
import Derived.Test.YtambgommeannnaaExu
import Derived.Test.YtambgommeannnaaCalM
namespace Go.Proofs.Ytambgommeannnaa
open Go.ChangeShapes Go.WideShapes Go.ChangeAt Go.RowKit Go.PlainAid
set_option linter.unusedVariables false
set_option linter.unusedSimpArgs false

set_option maxRecDepth 100000 in
set_option maxHeartbeats 8000000 in
theorem implExcept_any (f t d : Int) (bu ou ca bv ov cr : Nat) (us vs : List Int) (day : Int) (r : Bool) (w : World) (h1 : IntsIn w (Zone.below w.heap.size) (some ⟨bu, ou, none⟩) us) (h2 : IntsIn w (Zone.below w.heap.size) (some ⟨bv, ov, none⟩) vs) (hn : us.length ≤ 1048576) (hm : vs.length ≤ 1048576) :
    Calls Try.prog 35 #[.agg #[.int .i64 f, .int .i64 t, .int .i64 d, .slice (some ⟨bu, ou, none⟩) us.length ca, .slice (some ⟨bv, ov, none⟩) vs.length cr], .int .i64 day, .bool r] w (RetCal (exI f t d us vs day r f) (exI f t d us vs day r t) (exI f t d us vs day r d) (exX f t d us vs day r (exU d us day r)) (exX f t d us vs day r (exV d vs day r)) (exB f t d us vs day r) w) := by
  have hb0 : Below w.heap.size w ((w.alloc (.cells #[.int .i64 f, .int .i64 t, .int .i64 d, .slice (some ⟨bu, ou, none⟩) us.length ca, .slice (some ⟨bv, ov, none⟩) vs.length cr] 24)).alloc (.cells #[.int .i64 0, .int .i64 0, .int .i64 0, .slice none 0 0, .slice none 0 0] 24)) := by go_grown
  have HB0 := Lib.hid hb0
  have HC0 : Hid (FB ((w.alloc (.cells #[.int .i64 f, .int .i64 t, .int .i64 d, .slice (some ⟨bu, ou, none⟩) us.length ca, .slice (some ⟨bv, ov, none⟩) vs.length cr] 24)).alloc (.cells #[.int .i64 0, .int .i64 0, .int .i64 0, .slice none 0 0, .slice none 0 0] 24)) w.heap.size f t d (.slice (some ⟨bu, ou, none⟩) us.length ca) (.slice (some ⟨bv, ov, none⟩) vs.length cr)) := Lib.hid ⟨by go_simp, by go_simp, by go_simp, by go_simp, by go_simp, fun j => by go_simp, by simp <;> omega⟩
  have HZ0 : Hid (FB ((w.alloc (.cells #[.int .i64 f, .int .i64 t, .int .i64 d, .slice (some ⟨bu, ou, none⟩) us.length ca, .slice (some ⟨bv, ov, none⟩) vs.length cr] 24)).alloc (.cells #[.int .i64 0, .int .i64 0, .int .i64 0, .slice none 0 0, .slice none 0 0] 24)) (w.heap.size + 1) 0 0 0 (.slice none 0 0) (.slice none 0 0)) := Lib.hid ⟨by go_simp, by go_simp, by go_simp, by go_simp, by go_simp, fun j => by go_simp, by simp⟩
  have HI1 := Lib.hid h1
  have HI2 := Lib.hid h2
  have hz0 : w.heap.size + 2 ≤ ((w.alloc (.cells #[.int .i64 f, .int .i64 t, .int .i64 d, .slice (some ⟨bu, ou, none⟩) us.length ca, .slice (some ⟨bv, ov, none⟩) vs.length cr] 24)).alloc (.cells #[.int .i64 0, .int .i64 0, .int .i64 0, .slice none 0 0, .slice none 0 0] 24)).heap.size := by simp
  clear h1 h2 hb0
  cases hcal : calB f t d us vs
  · have HN := Lib.hid (exB_h (r := r) (show exH f t d us vs day = false by unfold exH; rw [hcal]; rfl))
    go_enter Try.func35, Try.ntmps35
    go_wp2_with fail
    generalize ((w.alloc (.cells #[.int .i64 f, .int .i64 t, .int .i64 d, .slice (some ⟨bu, ou, none⟩) us.length ca, .slice (some ⟨bv, ov, none⟩) vs.length cr] 24)).alloc (.cells #[.int .i64 0, .int .i64 0, .int .i64 0, .slice none 0 0, .slice none 0 0] 24)) = w0 at *
    have i1 := HI1.out.at_below HB0.out
    have i2 := HI2.out.at_below HB0.out
    have hzz := HB0.out.size
    refine (isValidCalendar_any f t d _ _ _ _ us vs w0 (IntsIn.at (i1.mono (Zone.below_le hzz))) (IntsIn.at (i2.mono (Zone.below_le hzz))) hn hm).mono ?_
    rintro e w1 ⟨rfl, hb1⟩
    rw [hcal]
    have HC1 := Lib.hid (HC0.out.below hb1 HC0.out.lt)
    have HZ1 := Lib.hid (HZ0.out.below hb1 HZ0.out.lt)
    have HB1 := Lib.hid (HB0.out.trans (hb1.mono hzz))
    have hz1 := hb1.size
    clear i1 i2 hb1
    obtain ⟨c0, c1, c2, c3, c4, c5, c6⟩ := HC1.out
    obtain ⟨z0, z1, z2, z3, z4, z5, z6⟩ := HZ1.out
    go_wp2_with fail
    refine bodyPost_ret (v := .tuple #[.agg #[.int .i64 0, .int .i64 0, .int .i64 0, .slice none 0 0, .slice none 0 0], .bool false]) (by simp [results, Try.results35, go_sem, z0, z1, z2, z3, z4]) rfl ?_
    refine retExN HN.out ?_
    repeat' (refine Below.setCell ?_ (by simp) _)
    exact HB1.out
  have hok : CalOk f t d us vs := of_decide_eq_true hcal
  have hhd := hok.1
  unfold HeadB at hhd
  have HUu := Lib.hid (up_of hok.2.1)
  have HUv := Lib.hid (up_of hok.2.2.1)
  obtain ⟨q1, q2, q3, q4, q5, q6, q7⟩ := hhd
  clear hok
  by_cases g1 : day < f
  · have HN := Lib.hid (exB_h (r := r) (show exH f t d us vs day = false by unfold exH; rw [hcal, inB_iff'.2 (by omega)]; rfl))
    go_enter Try.func35, Try.ntmps35
    go_wp2_with fail
    generalize ((w.alloc (.cells #[.int .i64 f, .int .i64 t, .int .i64 d, .slice (some ⟨bu, ou, none⟩) us.length ca, .slice (some ⟨bv, ov, none⟩) vs.length cr] 24)).alloc (.cells #[.int .i64 0, .int .i64 0, .int .i64 0, .slice none 0 0, .slice none 0 0] 24)) = w0 at *
    have i1 := HI1.out.at_below HB0.out
    have i2 := HI2.out.at_below HB0.out
    have hzz := HB0.out.size
    refine (isValidCalendar_any f t d _ _ _ _ us vs w0 (IntsIn.at (i1.mono (Zone.below_le hzz))) (IntsIn.at (i2.mono (Zone.below_le hzz))) hn hm).mono ?_
    rintro e w1 ⟨rfl, hb1⟩
    rw [hcal]
    have HC1 := Lib.hid (HC0.out.below hb1 HC0.out.lt)
    have HZ1 := Lib.hid (HZ0.out.below hb1 HZ0.out.lt)
    have HB1 := Lib.hid (HB0.out.trans (hb1.mono hzz))
    have hz1 := hb1.size
    clear i1 i2 hb1
    obtain ⟨c0, c1, c2, c3, c4, c5, c6⟩ := HC1.out
    obtain ⟨z0, z1, z2, z3, z4, z5, z6⟩ := HZ1.out
    go_wp2_with fail
    refine bodyPost_ret (v := .tuple #[.agg #[.int .i64 0, .int .i64 0, .int .i64 0, .slice none 0 0, .slice none 0 0], .bool false]) (by simp [results, Try.results35, go_sem, z0, z1, z2, z3, z4]) rfl ?_
    refine retExN HN.out ?_
    repeat' (refine Below.setCell ?_ (by simp) _)
    exact HB1.out
  by_cases g2 : t < day
  · have HN := Lib.hid (exB_h (r := r) (show exH f t d us vs day = false by unfold exH; rw [hcal, inB_iff'.2 (by omega)]; rfl))
    go_enter Try.func35, Try.ntmps35
    go_wp2_with fail
    generalize ((w.alloc (.cells #[.int .i64 f, .int .i64 t, .int .i64 d, .slice (some ⟨bu, ou, none⟩) us.length ca, .slice (some ⟨bv, ov, none⟩) vs.length cr] 24)).alloc (.cells #[.int .i64 0, .int .i64 0, .int .i64 0, .slice none 0 0, .slice none 0 0] 24)) = w0 at *
    have i1 := HI1.out.at_below HB0.out
    have i2 := HI2.out.at_below HB0.out
    have hzz := HB0.out.size
    refine (isValidCalendar_any f t d _ _ _ _ us vs w0 (IntsIn.at (i1.mono (Zone.below_le hzz))) (IntsIn.at (i2.mono (Zone.below_le hzz))) hn hm).mono ?_
    rintro e w1 ⟨rfl, hb1⟩
    rw [hcal]
    have HC1 := Lib.hid (HC0.out.below hb1 HC0.out.lt)
    have HZ1 := Lib.hid (HZ0.out.below hb1 HZ0.out.lt)
    have HB1 := Lib.hid (HB0.out.trans (hb1.mono hzz))
    have hz1 := hb1.size
    clear i1 i2 hb1
    obtain ⟨c0, c1, c2, c3, c4, c5, c6⟩ := HC1.out
    obtain ⟨z0, z1, z2, z3, z4, z5, z6⟩ := HZ1.out
    go_wp2_with fail
    refine bodyPost_ret (v := .tuple #[.agg #[.int .i64 0, .int .i64 0, .int .i64 0, .slice none 0 0, .slice none 0 0], .bool false]) (by simp [results, Try.results35, go_sem, z0, z1, z2, z3, z4]) rfl ?_
    refine retExN HN.out ?_
    repeat' (refine Below.setCell ?_ (by simp) _)
    exact HB1.out
  have hin : inB day f t = true := inB_iff.2 (by omega)
  have HH : Hid (exH f t d us vs day = true) := Lib.hid (by unfold exH; rw [hcal, hin]; rfl)
  have hd0 : 0 ≤ day := by omega
  have hd1 : day ≤ 3650 := by omega
  have hD0 : 0 ≤ d := by omega
  have hD1 : d ≤ 127 := by omega
  cases hu : wdB d day
  · cases r
    · skip
      obtain ⟨U, hU⟩ : ∃ U, U = wdL us day false := ⟨_, rfl⟩
      obtain ⟨V, hV⟩ : ∃ V, V = wdL vs day false := ⟨_, rfl⟩
      have HU : Hid (U = exU d us day false) := Lib.hid (hU.trans (by unfold exU; rw [hu]; rfl))
      have HV : Hid (V = exV d vs day false) := Lib.hid (hV.trans (by unfold exV; rw [hu]; rfl))
      have HW1 : Hid (∀ w', IntsIn w' (Zone.below w'.heap.size) (some ⟨bu, ou, none⟩) us → Calls Try.prog 102 #[.slice (some ⟨bu, ou, none⟩) us.length ca, .int .i64 day, .bool false] w' (RetDay U w')) := Lib.hid (fun w' h => by rw [hU]; exact withDay_any bu ou ca us day false w' h HUu.out hn)
      have HW2 : Hid (∀ w', IntsIn w' (Zone.below w'.heap.size) (some ⟨bv, ov, none⟩) vs → Calls Try.prog 102 #[.slice (some ⟨bv, ov, none⟩) vs.length cr, .int .i64 day, .bool false] w' (RetDay V w')) := Lib.hid (fun w' h => by rw [hV]; exact withDay_any bv ov cr vs day false w' h HUv.out hm)
      clear hU hV
      go_enter Try.func35, Try.ntmps35
      go_wp2_with fail
      generalize ((w.alloc (.cells #[.int .i64 f, .int .i64 t, .int .i64 d, .slice (some ⟨bu, ou, none⟩) us.length ca, .slice (some ⟨bv, ov, none⟩) vs.length cr] 24)).alloc (.cells #[.int .i64 0, .int .i64 0, .int .i64 0, .slice none 0 0, .slice none 0 0] 24)) = w0 at *
      have i1 := HI1.out.at_below HB0.out
      have i2 := HI2.out.at_below HB0.out
      have hzz := HB0.out.size
      refine (isValidCalendar_any f t d _ _ _ _ us vs w0 (IntsIn.at (i1.mono (Zone.below_le hzz))) (IntsIn.at (i2.mono (Zone.below_le hzz))) hn hm).mono ?_
      rintro e w1 ⟨rfl, hb1⟩
      rw [hcal]
      have HC1 := Lib.hid (HC0.out.below hb1 HC0.out.lt)
      have HZ1 := Lib.hid (HZ0.out.below hb1 HZ0.out.lt)
      have HB1 := Lib.hid (HB0.out.trans (hb1.mono hzz))
      have hz1 := hb1.size
      clear i1 i2 hb1
      obtain ⟨c0, c1, c2, c3, c4, c5, c6⟩ := HC1.out
      obtain ⟨z0, z1, z2, z3, z4, z5, z6⟩ := HZ1.out
      go_wp2_with fail
      refine (byWeekday_any d day _ hd0 hd1 hD0 hD1).mono ?_
      rintro e wb ⟨rfl, rfl⟩
      rw [hu]
      have HF3 : Hid (FB (w1.alloc (.cells #[.int .i64 f, .int .i64 t, .int .i64 d, .slice (some ⟨bu, ou, none⟩) us.length ca, .slice (some ⟨bv, ov, none⟩) vs.length cr] 24)) w1.heap.size f t d (.slice (some ⟨bu, ou, none⟩) us.length ca) (.slice (some ⟨bv, ov, none⟩) vs.length cr)) := Lib.hid ⟨by go_simp, by go_simp, by go_simp, by go_simp, by go_simp, fun j => by go_simp, by simp⟩
      have hb3 : Below w1.heap.size w1 (w1.alloc (.cells #[.int .i64 f, .int .i64 t, .int .i64 d, .slice (some ⟨bu, ou, none⟩) us.length ca, .slice (some ⟨bv, ov, none⟩) vs.length cr] 24)) := by go_grown
      have HC3 := Lib.hid (HC1.out.below hb3 HC1.out.lt)
      have HZ3 := Lib.hid (HZ1.out.below hb3 HZ1.out.lt)
      have HB3 := Lib.hid (HB1.out.trans (hb3.mono HB1.out.size))
      have hz3 : w1.heap.size < (w1.alloc (.cells #[.int .i64 f, .int .i64 t, .int .i64 d, .slice (some ⟨bu, ou, none⟩) us.length ca, .slice (some ⟨bv, ov, none⟩) vs.length cr] 24)).heap.size := by simp
      clear hb3
      go_wp2_with fail
      generalize (w1.alloc (.cells #[.int .i64 f, .int .i64 t, .int .i64 d, .slice (some ⟨bu, ou, none⟩) us.length ca, .slice (some ⟨bv, ov, none⟩) vs.length cr] 24)) = w3 at *
      have hw3 := HB3.out.size
      clear c0 c1 c2 c3 c4 c5 c6 z0 z1 z2 z3 z4 z5 z6
      refine (HW1.out w3 ((HI1.out.at_below HB3.out).mono (Zone.below_le hw3))).mono ?_
      rintro e w4 ⟨A1, n1, k1, a1, rfl, hn1, hi1, ha1, hb4⟩
      subst hn1
      have HF4 := Lib.hid (HF3.out.below hb4 HF3.out.lt)
      have HC4 := Lib.hid (HC3.out.below hb4 HC3.out.lt)
      have HZ4 := Lib.hid (HZ3.out.below hb4 HZ3.out.lt)
      have HB4 := Lib.hid (HB3.out.trans (hb4.mono hw3))
      have HA1 := Lib.hid hi1
      have HE1 := Lib.hid ha1
      have hz4 := hb4.size
      have hne1 : w.heap.size ≠ w1.heap.size := by omega
      have hne2 : w.heap.size + 1 ≠ w1.heap.size := by omega
      have d3 := HF4.out.c3
      have d5 := HF4.out.fr 3
      have HC5 : Hid (FB (w4.setCell ⟨w1.heap.size, 3, none⟩ (.slice A1 U.length k1)) w.heap.size f t d (.slice (some ⟨bu, ou, none⟩) us.length ca) (.slice (some ⟨bv, ov, none⟩) vs.length cr)) := Lib.hid (HC4.out.off (p := ⟨w1.heap.size, 3, none⟩) hne1 _)
      have HZ5 := Lib.hid (HZ4.out.off (p := ⟨w1.heap.size, 3, none⟩) hne2 (.slice A1 U.length k1))
      have HF5 := Lib.hid (HF4.out.setA (.slice A1 U.length k1))
      have HB5 := Lib.hid (HB4.out.setCell (p := ⟨w1.heap.size, 3, none⟩) (by show w.heap.size ≤ w1.heap.size; omega) (.slice A1 U.length k1))
      have HA5 : Hid (IntsIn (w4.setCell ⟨w1.heap.size, 3, none⟩ (.slice A1 U.length k1)) (Zone.only a1) A1 U) := Lib.hid (only_keep hi1 (fun hx => Same.set w4 (p := ⟨w1.heap.size, 3, none⟩) (by have := ha1 hx; show a1 ≠ w1.heap.size; omega) _))
      have hz5 : (w4.setCell ⟨w1.heap.size, 3, none⟩ (.slice A1 U.length k1)).heap.size = w4.heap.size := by rw [size_set]
      have x4 := HC5.out.c4
      clear hi1 ha1 hb4 hne1 hne2
      go_wp2_with fail
      generalize (w4.setCell ⟨w1.heap.size, 3, none⟩ (.slice A1 U.length k1)) = w5 at *
      have hw5 := HB5.out.size
      clear d3 d5 x4
      refine (HW2.out w5 ((HI2.out.at_below HB5.out).mono (Zone.below_le hw5))).mono ?_
      rintro e w6 ⟨A2, n2, k2, a2, rfl, hn2, hi2, ha2, hb6⟩
      subst hn2
      have HF6 := Lib.hid (HF5.out.below hb6 HF5.out.lt)
      have HZ6 := Lib.hid (HZ5.out.below hb6 HZ5.out.lt)
      have HB6 := Lib.hid (HB5.out.trans (hb6.mono hw5))
      have hz6 := hb6.size
      have hne2 : w.heap.size + 1 ≠ w1.heap.size := by omega
      have d4 := HF6.out.c4
      have d5 := HF6.out.fr 4
      have HF9 := Lib.hid (HF6.out.setR (.slice A2 V.length k2))
      have HZ9 := Lib.hid (HZ6.out.off (p := ⟨w1.heap.size, 4, none⟩) hne2 (.slice A2 V.length k2))
      have HB9 := Lib.hid (HB6.out.setCell (p := ⟨w1.heap.size, 4, none⟩) (by show w.heap.size ≤ w1.heap.size; omega) (.slice A2 V.length k2))
      have hlo : w.heap.size + 1 < w3.heap.size := by omega
      obtain ⟨lo, hloe⟩ : ∃ lo, lo = w3.heap.size := ⟨_, rfl⟩
      have HO9 : Hid (CalO (w6.setCell ⟨w1.heap.size, 4, none⟩ (.slice A2 V.length k2)) lo (w6.setCell ⟨w1.heap.size, 4, none⟩ (.slice A2 V.length k2)).heap.size A1 A2 U V) := Lib.hid (by
        rw [hloe]
        have s1 : IntsIn w6 (Zone.only a1) A1 U := only_keep HA5.out (fun hx => Same.of_below hb6 (by have := HE1.out hx; omega))
        refine calO_two (only_keep s1 (fun hx => Same.set w6 (p := ⟨w1.heap.size, 4, none⟩) (by have := HE1.out hx; show a1 ≠ w1.heap.size; omega) _)) (only_keep hi2 (fun hx => Same.set w6 (p := ⟨w1.heap.size, 4, none⟩) (by have := ha2 hx; show a2 ≠ w1.heap.size; omega) _)) (fun hx => ?_) (fun hx => ?_) (fun hx hy => ?_)
        · rw [size_set]; have := HE1.out hx; omega
        · rw [size_set]; have := ha2 hx; omega
        · have := HE1.out hx; have := ha2 hy; omega)
      rw [← hloe] at hlo
      obtain ⟨y0, y1, y2, y3, y4, y5, y6⟩ := HF9.out
      clear hi2 ha2 hb6 hne2
      go_wp2_with fail
      generalize (w6.setCell ⟨w1.heap.size, 4, none⟩ (.slice A2 V.length k2)) = w9 at *
      have HC9 := HF9
      clear y0 y1 y2 y3 y4 y5 y6 d4 d5
      have hUL : U.length ≤ 1048576 := by rw [HU.out]; exact Nat.le_trans (wdL_len _ _ _) (by omega)
      have hVL : V.length ≤ 1048576 := by rw [HV.out]; exact Nat.le_trans (wdL_len _ _ _) (by omega)
      have hG := isValidCalendar_any f t d A1 A2 k1 k2 U V w9 (IntsIn.at (HO9.out.to_below (Nat.le_refl _)).u) (IntsIn.at (HO9.out.to_below (Nat.le_refl _)).v) hUL hVL
      have HG := Lib.hid hG
      clear hG
      cases hc2 : calB f t d U V
      · skip
        have HN : Hid (exB f t d us vs day false = false) := Lib.hid (exB_c (by rw [← HU.out, ← HV.out]; exact hc2))
        refine (HG.out.mono ?_)
        rintro e wa ⟨rfl, hba⟩
        rw [hc2]
        have HZa := Lib.hid (HZ9.out.below hba HZ9.out.lt)
        have HCa := Lib.hid (HC9.out.below hba HC9.out.lt)
        have HBa := Lib.hid (HB9.out.trans (hba.mono HB9.out.size))
        have HOa := Lib.hid ((HO9.out.new_call hba (Nat.le_refl _)).wide (Nat.le_refl _) hba.size)
        clear hba
        obtain ⟨c0, c1', c2', c3, c4, c5, c6⟩ := HCa.out
        obtain ⟨z0, z1, z2, z3, z4, z5, z6⟩ := HZa.out
        go_wp2_with fail
        refine bodyPost_ret (v := .tuple #[.agg #[.int .i64 0, .int .i64 0, .int .i64 0, .slice none 0 0, .slice none 0 0], .bool false]) (by simp [results, Try.results35, go_sem, z0, z1, z2, z3, z4]) rfl ?_
        refine retExN HN.out ?_
        repeat' (refine Below.setCell ?_ (by simp) _)
        exact HBa.out
      · skip
        have HN : Hid (exB f t d us vs day false = true) := Lib.hid (exB_y HH.out (by rw [← HU.out, ← HV.out]; exact hc2))
        refine (HG.out.mono ?_)
        rintro e wa ⟨rfl, hba⟩
        rw [hc2]
        have HZa := Lib.hid (HZ9.out.below hba HZ9.out.lt)
        have HCa := Lib.hid (HC9.out.below hba HC9.out.lt)
        have HBa := Lib.hid (HB9.out.trans (hba.mono HB9.out.size))
        have HOa := Lib.hid ((HO9.out.new_call hba (Nat.le_refl _)).wide (Nat.le_refl _) hba.size)
        clear hba
        obtain ⟨c0, c1', c2', c3, c4, c5, c6⟩ := HCa.out
        obtain ⟨z0, z1, z2, z3, z4, z5, z6⟩ := HZa.out
        go_wp2_with fail
        refine bodyPost_ret (v := .tuple #[.agg #[.int .i64 f, .int .i64 t, .int .i64 d, .slice A1 U.length k1, .slice A2 V.length k2], .bool true]) (by simp [results, Try.results35, go_sem, z0, z1, z2, z3, z4]) rfl ?_
        refine retExY HN.out HU.out HV.out (lo := lo) ?_ (by omega) ?_
        · simp only [size_set]
          repeat' (refine CalO.set ?_ (by simpa using hlo) _)
          exact HOa.out
        · repeat' (refine Below.setCell ?_ (by simp) _)
          exact HBa.out
    · skip
      obtain ⟨U, hU⟩ : ∃ U, U = wdL us day true := ⟨_, rfl⟩
      obtain ⟨V, hV⟩ : ∃ V, V = wdL vs day false := ⟨_, rfl⟩
      have HU : Hid (U = exU d us day true) := Lib.hid (hU.trans (by unfold exU; rw [hu]; rfl))
      have HV : Hid (V = exV d vs day true) := Lib.hid (hV.trans (by unfold exV; rw [hu]; rfl))
      have HW1 : Hid (∀ w', IntsIn w' (Zone.below w'.heap.size) (some ⟨bu, ou, none⟩) us → Calls Try.prog 102 #[.slice (some ⟨bu, ou, none⟩) us.length ca, .int .i64 day, .bool true] w' (RetDay U w')) := Lib.hid (fun w' h => by rw [hU]; exact withDay_any bu ou ca us day true w' h HUu.out hn)
      have HW2 : Hid (∀ w', IntsIn w' (Zone.below w'.heap.size) (some ⟨bv, ov, none⟩) vs → Calls Try.prog 102 #[.slice (some ⟨bv, ov, none⟩) vs.length cr, .int .i64 day, .bool false] w' (RetDay V w')) := Lib.hid (fun w' h => by rw [hV]; exact withDay_any bv ov cr vs day false w' h HUv.out hm)
      clear hU hV
      go_enter Try.func35, Try.ntmps35
      go_wp2_with fail
      generalize ((w.alloc (.cells #[.int .i64 f, .int .i64 t, .int .i64 d, .slice (some ⟨bu, ou, none⟩) us.length ca, .slice (some ⟨bv, ov, none⟩) vs.length cr] 24)).alloc (.cells #[.int .i64 0, .int .i64 0, .int .i64 0, .slice none 0 0, .slice none 0 0] 24)) = w0 at *
      have i1 := HI1.out.at_below HB0.out
      have i2 := HI2.out.at_below HB0.out
      have hzz := HB0.out.size
      refine (isValidCalendar_any f t d _ _ _ _ us vs w0 (IntsIn.at (i1.mono (Zone.below_le hzz))) (IntsIn.at (i2.mono (Zone.below_le hzz))) hn hm).mono ?_
      rintro e w1 ⟨rfl, hb1⟩
      rw [hcal]
      have HC1 := Lib.hid (HC0.out.below hb1 HC0.out.lt)
      have HZ1 := Lib.hid (HZ0.out.below hb1 HZ0.out.lt)
      have HB1 := Lib.hid (HB0.out.trans (hb1.mono hzz))
      have hz1 := hb1.size
      clear i1 i2 hb1
      obtain ⟨c0, c1, c2, c3, c4, c5, c6⟩ := HC1.out
      obtain ⟨z0, z1, z2, z3, z4, z5, z6⟩ := HZ1.out
      go_wp2_with fail
      refine (byWeekday_any d day _ hd0 hd1 hD0 hD1).mono ?_
      rintro e wb ⟨rfl, rfl⟩
      rw [hu]
      have HF3 : Hid (FB (w1.alloc (.cells #[.int .i64 f, .int .i64 t, .int .i64 d, .slice (some ⟨bu, ou, none⟩) us.length ca, .slice (some ⟨bv, ov, none⟩) vs.length cr] 24)) w1.heap.size f t d (.slice (some ⟨bu, ou, none⟩) us.length ca) (.slice (some ⟨bv, ov, none⟩) vs.length cr)) := Lib.hid ⟨by go_simp, by go_simp, by go_simp, by go_simp, by go_simp, fun j => by go_simp, by simp⟩
      have hb3 : Below w1.heap.size w1 (w1.alloc (.cells #[.int .i64 f, .int .i64 t, .int .i64 d, .slice (some ⟨bu, ou, none⟩) us.length ca, .slice (some ⟨bv, ov, none⟩) vs.length cr] 24)) := by go_grown
      have HC3 := Lib.hid (HC1.out.below hb3 HC1.out.lt)
      have HZ3 := Lib.hid (HZ1.out.below hb3 HZ1.out.lt)
      have HB3 := Lib.hid (HB1.out.trans (hb3.mono HB1.out.size))
      have hz3 : w1.heap.size < (w1.alloc (.cells #[.int .i64 f, .int .i64 t, .int .i64 d, .slice (some ⟨bu, ou, none⟩) us.length ca, .slice (some ⟨bv, ov, none⟩) vs.length cr] 24)).heap.size := by simp
      clear hb3
      go_wp2_with fail
      generalize (w1.alloc (.cells #[.int .i64 f, .int .i64 t, .int .i64 d, .slice (some ⟨bu, ou, none⟩) us.length ca, .slice (some ⟨bv, ov, none⟩) vs.length cr] 24)) = w3 at *
      have hw3 := HB3.out.size
      clear c0 c1 c2 c3 c4 c5 c6 z0 z1 z2 z3 z4 z5 z6
      refine (HW1.out w3 ((HI1.out.at_below HB3.out).mono (Zone.below_le hw3))).mono ?_
      rintro e w4 ⟨A1, n1, k1, a1, rfl, hn1, hi1, ha1, hb4⟩
      subst hn1
      have HF4 := Lib.hid (HF3.out.below hb4 HF3.out.lt)
      have HC4 := Lib.hid (HC3.out.below hb4 HC3.out.lt)
      have HZ4 := Lib.hid (HZ3.out.below hb4 HZ3.out.lt)
      have HB4 := Lib.hid (HB3.out.trans (hb4.mono hw3))
      have HA1 := Lib.hid hi1
      have HE1 := Lib.hid ha1
      have hz4 := hb4.size
      have hne1 : w.heap.size ≠ w1.heap.size := by omega
      have hne2 : w.heap.size + 1 ≠ w1.heap.size := by omega
      have d3 := HF4.out.c3
      have d5 := HF4.out.fr 3
      have HC5 : Hid (FB (w4.setCell ⟨w1.heap.size, 3, none⟩ (.slice A1 U.length k1)) w.heap.size f t d (.slice (some ⟨bu, ou, none⟩) us.length ca) (.slice (some ⟨bv, ov, none⟩) vs.length cr)) := Lib.hid (HC4.out.off (p := ⟨w1.heap.size, 3, none⟩) hne1 _)
      have HZ5 := Lib.hid (HZ4.out.off (p := ⟨w1.heap.size, 3, none⟩) hne2 (.slice A1 U.length k1))
      have HF5 := Lib.hid (HF4.out.setA (.slice A1 U.length k1))
      have HB5 := Lib.hid (HB4.out.setCell (p := ⟨w1.heap.size, 3, none⟩) (by show w.heap.size ≤ w1.heap.size; omega) (.slice A1 U.length k1))
      have HA5 : Hid (IntsIn (w4.setCell ⟨w1.heap.size, 3, none⟩ (.slice A1 U.length k1)) (Zone.only a1) A1 U) := Lib.hid (only_keep hi1 (fun hx => Same.set w4 (p := ⟨w1.heap.size, 3, none⟩) (by have := ha1 hx; show a1 ≠ w1.heap.size; omega) _))
      have hz5 : (w4.setCell ⟨w1.heap.size, 3, none⟩ (.slice A1 U.length k1)).heap.size = w4.heap.size := by rw [size_set]
      have x4 := HC5.out.c4
      clear hi1 ha1 hb4 hne1 hne2
      go_wp2_with fail
      generalize (w4.setCell ⟨w1.heap.size, 3, none⟩ (.slice A1 U.length k1)) = w5 at *
      have hw5 := HB5.out.size
      clear d3 d5 x4
      refine (HW2.out w5 ((HI2.out.at_below HB5.out).mono (Zone.below_le hw5))).mono ?_
      rintro e w6 ⟨A2, n2, k2, a2, rfl, hn2, hi2, ha2, hb6⟩
      subst hn2
      have HF6 := Lib.hid (HF5.out.below hb6 HF5.out.lt)
      have HZ6 := Lib.hid (HZ5.out.below hb6 HZ5.out.lt)
      have HB6 := Lib.hid (HB5.out.trans (hb6.mono hw5))
      have hz6 := hb6.size
      have hne2 : w.heap.size + 1 ≠ w1.heap.size := by omega
      have d4 := HF6.out.c4
      have d5 := HF6.out.fr 4
      have HF9 := Lib.hid (HF6.out.setR (.slice A2 V.length k2))
      have HZ9 := Lib.hid (HZ6.out.off (p := ⟨w1.heap.size, 4, none⟩) hne2 (.slice A2 V.length k2))
      have HB9 := Lib.hid (HB6.out.setCell (p := ⟨w1.heap.size, 4, none⟩) (by show w.heap.size ≤ w1.heap.size; omega) (.slice A2 V.length k2))
      have hlo : w.heap.size + 1 < w3.heap.size := by omega
      obtain ⟨lo, hloe⟩ : ∃ lo, lo = w3.heap.size := ⟨_, rfl⟩
      have HO9 : Hid (CalO (w6.setCell ⟨w1.heap.size, 4, none⟩ (.slice A2 V.length k2)) lo (w6.setCell ⟨w1.heap.size, 4, none⟩ (.slice A2 V.length k2)).heap.size A1 A2 U V) := Lib.hid (by
        rw [hloe]
        have s1 : IntsIn w6 (Zone.only a1) A1 U := only_keep HA5.out (fun hx => Same.of_below hb6 (by have := HE1.out hx; omega))
        refine calO_two (only_keep s1 (fun hx => Same.set w6 (p := ⟨w1.heap.size, 4, none⟩) (by have := HE1.out hx; show a1 ≠ w1.heap.size; omega) _)) (only_keep hi2 (fun hx => Same.set w6 (p := ⟨w1.heap.size, 4, none⟩) (by have := ha2 hx; show a2 ≠ w1.heap.size; omega) _)) (fun hx => ?_) (fun hx => ?_) (fun hx hy => ?_)
        · rw [size_set]; have := HE1.out hx; omega
        · rw [size_set]; have := ha2 hx; omega
        · have := HE1.out hx; have := ha2 hy; omega)
      rw [← hloe] at hlo
      obtain ⟨y0, y1, y2, y3, y4, y5, y6⟩ := HF9.out
      clear hi2 ha2 hb6 hne2
      go_wp2_with fail
      generalize (w6.setCell ⟨w1.heap.size, 4, none⟩ (.slice A2 V.length k2)) = w9 at *
      have HC9 := HF9
      clear y0 y1 y2 y3 y4 y5 y6 d4 d5
      have hUL : U.length ≤ 1048576 := by rw [HU.out]; exact Nat.le_trans (wdL_len _ _ _) (by omega)
      have hVL : V.length ≤ 1048576 := by rw [HV.out]; exact Nat.le_trans (wdL_len _ _ _) (by omega)
      have hG := isValidCalendar_any f t d A1 A2 k1 k2 U V w9 (IntsIn.at (HO9.out.to_below (Nat.le_refl _)).u) (IntsIn.at (HO9.out.to_below (Nat.le_refl _)).v) hUL hVL
      have HG := Lib.hid hG
      clear hG
      cases hc2 : calB f t d U V
      · skip
        have HN : Hid (exB f t d us vs day true = false) := Lib.hid (exB_c (by rw [← HU.out, ← HV.out]; exact hc2))
        refine (HG.out.mono ?_)
        rintro e wa ⟨rfl, hba⟩
        rw [hc2]
        have HZa := Lib.hid (HZ9.out.below hba HZ9.out.lt)
        have HCa := Lib.hid (HC9.out.below hba HC9.out.lt)
        have HBa := Lib.hid (HB9.out.trans (hba.mono HB9.out.size))
        have HOa := Lib.hid ((HO9.out.new_call hba (Nat.le_refl _)).wide (Nat.le_refl _) hba.size)
        clear hba
        obtain ⟨c0, c1', c2', c3, c4, c5, c6⟩ := HCa.out
        obtain ⟨z0, z1, z2, z3, z4, z5, z6⟩ := HZa.out
        go_wp2_with fail
        refine bodyPost_ret (v := .tuple #[.agg #[.int .i64 0, .int .i64 0, .int .i64 0, .slice none 0 0, .slice none 0 0], .bool false]) (by simp [results, Try.results35, go_sem, z0, z1, z2, z3, z4]) rfl ?_
        refine retExN HN.out ?_
        repeat' (refine Below.setCell ?_ (by simp) _)
        exact HBa.out
      · skip
        have HN : Hid (exB f t d us vs day true = true) := Lib.hid (exB_y HH.out (by rw [← HU.out, ← HV.out]; exact hc2))
        refine (HG.out.mono ?_)
        rintro e wa ⟨rfl, hba⟩
        rw [hc2]
        have HZa := Lib.hid (HZ9.out.below hba HZ9.out.lt)
        have HCa := Lib.hid (HC9.out.below hba HC9.out.lt)
        have HBa := Lib.hid (HB9.out.trans (hba.mono HB9.out.size))
        have HOa := Lib.hid ((HO9.out.new_call hba (Nat.le_refl _)).wide (Nat.le_refl _) hba.size)
        clear hba
        obtain ⟨c0, c1', c2', c3, c4, c5, c6⟩ := HCa.out
        obtain ⟨z0, z1, z2, z3, z4, z5, z6⟩ := HZa.out
        go_wp2_with fail
        refine bodyPost_ret (v := .tuple #[.agg #[.int .i64 f, .int .i64 t, .int .i64 d, .slice A1 U.length k1, .slice A2 V.length k2], .bool true]) (by simp [results, Try.results35, go_sem, z0, z1, z2, z3, z4]) rfl ?_
        refine retExY HN.out HU.out HV.out (lo := lo) ?_ (by omega) ?_
        · simp only [size_set]
          repeat' (refine CalO.set ?_ (by simpa using hlo) _)
          exact HOa.out
        · repeat' (refine Below.setCell ?_ (by simp) _)
          exact HBa.out
  · cases r
    · skip
      obtain ⟨U, hU⟩ : ∃ U, U = wdL us day false := ⟨_, rfl⟩
      obtain ⟨V, hV⟩ : ∃ V, V = wdL vs day true := ⟨_, rfl⟩
      have HU : Hid (U = exU d us day false) := Lib.hid (hU.trans (by unfold exU; rw [hu]; rfl))
      have HV : Hid (V = exV d vs day false) := Lib.hid (hV.trans (by unfold exV; rw [hu]; rfl))
      have HW1 : Hid (∀ w', IntsIn w' (Zone.below w'.heap.size) (some ⟨bu, ou, none⟩) us → Calls Try.prog 102 #[.slice (some ⟨bu, ou, none⟩) us.length ca, .int .i64 day, .bool false] w' (RetDay U w')) := Lib.hid (fun w' h => by rw [hU]; exact withDay_any bu ou ca us day false w' h HUu.out hn)
      have HW2 : Hid (∀ w', IntsIn w' (Zone.below w'.heap.size) (some ⟨bv, ov, none⟩) vs → Calls Try.prog 102 #[.slice (some ⟨bv, ov, none⟩) vs.length cr, .int .i64 day, .bool true] w' (RetDay V w')) := Lib.hid (fun w' h => by rw [hV]; exact withDay_any bv ov cr vs day true w' h HUv.out hm)
      clear hU hV
      go_enter Try.func35, Try.ntmps35
      go_wp2_with fail
      generalize ((w.alloc (.cells #[.int .i64 f, .int .i64 t, .int .i64 d, .slice (some ⟨bu, ou, none⟩) us.length ca, .slice (some ⟨bv, ov, none⟩) vs.length cr] 24)).alloc (.cells #[.int .i64 0, .int .i64 0, .int .i64 0, .slice none 0 0, .slice none 0 0] 24)) = w0 at *
      have i1 := HI1.out.at_below HB0.out
      have i2 := HI2.out.at_below HB0.out
      have hzz := HB0.out.size
      refine (isValidCalendar_any f t d _ _ _ _ us vs w0 (IntsIn.at (i1.mono (Zone.below_le hzz))) (IntsIn.at (i2.mono (Zone.below_le hzz))) hn hm).mono ?_
      rintro e w1 ⟨rfl, hb1⟩
      rw [hcal]
      have HC1 := Lib.hid (HC0.out.below hb1 HC0.out.lt)
      have HZ1 := Lib.hid (HZ0.out.below hb1 HZ0.out.lt)
      have HB1 := Lib.hid (HB0.out.trans (hb1.mono hzz))
      have hz1 := hb1.size
      clear i1 i2 hb1
      obtain ⟨c0, c1, c2, c3, c4, c5, c6⟩ := HC1.out
      obtain ⟨z0, z1, z2, z3, z4, z5, z6⟩ := HZ1.out
      go_wp2_with fail
      refine (byWeekday_any d day _ hd0 hd1 hD0 hD1).mono ?_
      rintro e wb ⟨rfl, rfl⟩
      rw [hu]
      have HF3 : Hid (FB (w1.alloc (.cells #[.int .i64 f, .int .i64 t, .int .i64 d, .slice (some ⟨bu, ou, none⟩) us.length ca, .slice (some ⟨bv, ov, none⟩) vs.length cr] 24)) w1.heap.size f t d (.slice (some ⟨bu, ou, none⟩) us.length ca) (.slice (some ⟨bv, ov, none⟩) vs.length cr)) := Lib.hid ⟨by go_simp, by go_simp, by go_simp, by go_simp, by go_simp, fun j => by go_simp, by simp⟩
      have hb3 : Below w1.heap.size w1 (w1.alloc (.cells #[.int .i64 f, .int .i64 t, .int .i64 d, .slice (some ⟨bu, ou, none⟩) us.length ca, .slice (some ⟨bv, ov, none⟩) vs.length cr] 24)) := by go_grown
      have HC3 := Lib.hid (HC1.out.below hb3 HC1.out.lt)
      have HZ3 := Lib.hid (HZ1.out.below hb3 HZ1.out.lt)
      have HB3 := Lib.hid (HB1.out.trans (hb3.mono HB1.out.size))
      have hz3 : w1.heap.size < (w1.alloc (.cells #[.int .i64 f, .int .i64 t, .int .i64 d, .slice (some ⟨bu, ou, none⟩) us.length ca, .slice (some ⟨bv, ov, none⟩) vs.length cr] 24)).heap.size := by simp
      clear hb3
      go_wp2_with fail
      generalize (w1.alloc (.cells #[.int .i64 f, .int .i64 t, .int .i64 d, .slice (some ⟨bu, ou, none⟩) us.length ca, .slice (some ⟨bv, ov, none⟩) vs.length cr] 24)) = w3 at *
      have hw3 := HB3.out.size
      clear c0 c1 c2 c3 c4 c5 c6 z0 z1 z2 z3 z4 z5 z6
      refine (HW1.out w3 ((HI1.out.at_below HB3.out).mono (Zone.below_le hw3))).mono ?_
      rintro e w4 ⟨A1, n1, k1, a1, rfl, hn1, hi1, ha1, hb4⟩
      subst hn1
      have HF4 := Lib.hid (HF3.out.below hb4 HF3.out.lt)
      have HC4 := Lib.hid (HC3.out.below hb4 HC3.out.lt)
      have HZ4 := Lib.hid (HZ3.out.below hb4 HZ3.out.lt)
      have HB4 := Lib.hid (HB3.out.trans (hb4.mono hw3))
      have HA1 := Lib.hid hi1
      have HE1 := Lib.hid ha1
      have hz4 := hb4.size
      have hne1 : w.heap.size ≠ w1.heap.size := by omega
      have hne2 : w.heap.size + 1 ≠ w1.heap.size := by omega
      have d3 := HF4.out.c3
      have d5 := HF4.out.fr 3
      have HC5 : Hid (FB (w4.setCell ⟨w1.heap.size, 3, none⟩ (.slice A1 U.length k1)) w.heap.size f t d (.slice (some ⟨bu, ou, none⟩) us.length ca) (.slice (some ⟨bv, ov, none⟩) vs.length cr)) := Lib.hid (HC4.out.off (p := ⟨w1.heap.size, 3, none⟩) hne1 _)
      have HZ5 := Lib.hid (HZ4.out.off (p := ⟨w1.heap.size, 3, none⟩) hne2 (.slice A1 U.length k1))
      have HF5 := Lib.hid (HF4.out.setA (.slice A1 U.length k1))
      have HB5 := Lib.hid (HB4.out.setCell (p := ⟨w1.heap.size, 3, none⟩) (by show w.heap.size ≤ w1.heap.size; omega) (.slice A1 U.length k1))
      have HA5 : Hid (IntsIn (w4.setCell ⟨w1.heap.size, 3, none⟩ (.slice A1 U.length k1)) (Zone.only a1) A1 U) := Lib.hid (only_keep hi1 (fun hx => Same.set w4 (p := ⟨w1.heap.size, 3, none⟩) (by have := ha1 hx; show a1 ≠ w1.heap.size; omega) _))
      have hz5 : (w4.setCell ⟨w1.heap.size, 3, none⟩ (.slice A1 U.length k1)).heap.size = w4.heap.size := by rw [size_set]
      have x4 := HC5.out.c4
      clear hi1 ha1 hb4 hne1 hne2
      go_wp2_with fail
      generalize (w4.setCell ⟨w1.heap.size, 3, none⟩ (.slice A1 U.length k1)) = w5 at *
      have hw5 := HB5.out.size
      clear d3 d5 x4
      refine (HW2.out w5 ((HI2.out.at_below HB5.out).mono (Zone.below_le hw5))).mono ?_
      rintro e w6 ⟨A2, n2, k2, a2, rfl, hn2, hi2, ha2, hb6⟩
      subst hn2
      have HF6 := Lib.hid (HF5.out.below hb6 HF5.out.lt)
      have HZ6 := Lib.hid (HZ5.out.below hb6 HZ5.out.lt)
      have HB6 := Lib.hid (HB5.out.trans (hb6.mono hw5))
      have hz6 := hb6.size
      have hne2 : w.heap.size + 1 ≠ w1.heap.size := by omega
      have d4 := HF6.out.c4
      have d5 := HF6.out.fr 4
      have HF9 := Lib.hid (HF6.out.setR (.slice A2 V.length k2))
      have HZ9 := Lib.hid (HZ6.out.off (p := ⟨w1.heap.size, 4, none⟩) hne2 (.slice A2 V.length k2))
      have HB9 := Lib.hid (HB6.out.setCell (p := ⟨w1.heap.size, 4, none⟩) (by show w.heap.size ≤ w1.heap.size; omega) (.slice A2 V.length k2))
      have hlo : w.heap.size + 1 < w3.heap.size := by omega
      obtain ⟨lo, hloe⟩ : ∃ lo, lo = w3.heap.size := ⟨_, rfl⟩
      have HO9 : Hid (CalO (w6.setCell ⟨w1.heap.size, 4, none⟩ (.slice A2 V.length k2)) lo (w6.setCell ⟨w1.heap.size, 4, none⟩ (.slice A2 V.length k2)).heap.size A1 A2 U V) := Lib.hid (by
        rw [hloe]
        have s1 : IntsIn w6 (Zone.only a1) A1 U := only_keep HA5.out (fun hx => Same.of_below hb6 (by have := HE1.out hx; omega))
        refine calO_two (only_keep s1 (fun hx => Same.set w6 (p := ⟨w1.heap.size, 4, none⟩) (by have := HE1.out hx; show a1 ≠ w1.heap.size; omega) _)) (only_keep hi2 (fun hx => Same.set w6 (p := ⟨w1.heap.size, 4, none⟩) (by have := ha2 hx; show a2 ≠ w1.heap.size; omega) _)) (fun hx => ?_) (fun hx => ?_) (fun hx hy => ?_)
        · rw [size_set]; have := HE1.out hx; omega
        · rw [size_set]; have := ha2 hx; omega
        · have := HE1.out hx; have := ha2 hy; omega)
      rw [← hloe] at hlo
      obtain ⟨y0, y1, y2, y3, y4, y5, y6⟩ := HF9.out
      clear hi2 ha2 hb6 hne2
      go_wp2_with fail
      generalize (w6.setCell ⟨w1.heap.size, 4, none⟩ (.slice A2 V.length k2)) = w9 at *
      have HC9 := HF9
      clear y0 y1 y2 y3 y4 y5 y6 d4 d5
      have hUL : U.length ≤ 1048576 := by rw [HU.out]; exact Nat.le_trans (wdL_len _ _ _) (by omega)
      have hVL : V.length ≤ 1048576 := by rw [HV.out]; exact Nat.le_trans (wdL_len _ _ _) (by omega)
      have hG := isValidCalendar_any f t d A1 A2 k1 k2 U V w9 (IntsIn.at (HO9.out.to_below (Nat.le_refl _)).u) (IntsIn.at (HO9.out.to_below (Nat.le_refl _)).v) hUL hVL
      have HG := Lib.hid hG
      clear hG
      cases hc2 : calB f t d U V
      · skip
        have HN : Hid (exB f t d us vs day false = false) := Lib.hid (exB_c (by rw [← HU.out, ← HV.out]; exact hc2))
        refine (HG.out.mono ?_)
        rintro e wa ⟨rfl, hba⟩
        rw [hc2]
        have HZa := Lib.hid (HZ9.out.below hba HZ9.out.lt)
        have HCa := Lib.hid (HC9.out.below hba HC9.out.lt)
        have HBa := Lib.hid (HB9.out.trans (hba.mono HB9.out.size))
        have HOa := Lib.hid ((HO9.out.new_call hba (Nat.le_refl _)).wide (Nat.le_refl _) hba.size)
        clear hba
        obtain ⟨c0, c1', c2', c3, c4, c5, c6⟩ := HCa.out
        obtain ⟨z0, z1, z2, z3, z4, z5, z6⟩ := HZa.out
        go_wp2_with fail
        refine bodyPost_ret (v := .tuple #[.agg #[.int .i64 0, .int .i64 0, .int .i64 0, .slice none 0 0, .slice none 0 0], .bool false]) (by simp [results, Try.results35, go_sem, z0, z1, z2, z3, z4]) rfl ?_
        refine retExN HN.out ?_
        repeat' (refine Below.setCell ?_ (by simp) _)
        exact HBa.out
      · skip
        have HN : Hid (exB f t d us vs day false = true) := Lib.hid (exB_y HH.out (by rw [← HU.out, ← HV.out]; exact hc2))
        refine (HG.out.mono ?_)
        rintro e wa ⟨rfl, hba⟩
        rw [hc2]
        have HZa := Lib.hid (HZ9.out.below hba HZ9.out.lt)
        have HCa := Lib.hid (HC9.out.below hba HC9.out.lt)
        have HBa := Lib.hid (HB9.out.trans (hba.mono HB9.out.size))
        have HOa := Lib.hid ((HO9.out.new_call hba (Nat.le_refl _)).wide (Nat.le_refl _) hba.size)
        clear hba
        obtain ⟨c0, c1', c2', c3, c4, c5, c6⟩ := HCa.out
        obtain ⟨z0, z1, z2, z3, z4, z5, z6⟩ := HZa.out
        go_wp2_with fail
        refine bodyPost_ret (v := .tuple #[.agg #[.int .i64 f, .int .i64 t, .int .i64 d, .slice A1 U.length k1, .slice A2 V.length k2], .bool true]) (by simp [results, Try.results35, go_sem, z0, z1, z2, z3, z4]) rfl ?_
        refine retExY HN.out HU.out HV.out (lo := lo) ?_ (by omega) ?_
        · simp only [size_set]
          repeat' (refine CalO.set ?_ (by simpa using hlo) _)
          exact HOa.out
        · repeat' (refine Below.setCell ?_ (by simp) _)
          exact HBa.out
    · skip
      obtain ⟨U, hU⟩ : ∃ U, U = wdL us day false := ⟨_, rfl⟩
      obtain ⟨V, hV⟩ : ∃ V, V = wdL vs day false := ⟨_, rfl⟩
      have HU : Hid (U = exU d us day true) := Lib.hid (hU.trans (by unfold exU; rw [hu]; rfl))
      have HV : Hid (V = exV d vs day true) := Lib.hid (hV.trans (by unfold exV; rw [hu]; rfl))
      have HW1 : Hid (∀ w', IntsIn w' (Zone.below w'.heap.size) (some ⟨bu, ou, none⟩) us → Calls Try.prog 102 #[.slice (some ⟨bu, ou, none⟩) us.length ca, .int .i64 day, .bool false] w' (RetDay U w')) := Lib.hid (fun w' h => by rw [hU]; exact withDay_any bu ou ca us day false w' h HUu.out hn)
      have HW2 : Hid (∀ w', IntsIn w' (Zone.below w'.heap.size) (some ⟨bv, ov, none⟩) vs → Calls Try.prog 102 #[.slice (some ⟨bv, ov, none⟩) vs.length cr, .int .i64 day, .bool false] w' (RetDay V w')) := Lib.hid (fun w' h => by rw [hV]; exact withDay_any bv ov cr vs day false w' h HUv.out hm)
      clear hU hV
      go_enter Try.func35, Try.ntmps35
      go_wp2_with fail
      generalize ((w.alloc (.cells #[.int .i64 f, .int .i64 t, .int .i64 d, .slice (some ⟨bu, ou, none⟩) us.length ca, .slice (some ⟨bv, ov, none⟩) vs.length cr] 24)).alloc (.cells #[.int .i64 0, .int .i64 0, .int .i64 0, .slice none 0 0, .slice none 0 0] 24)) = w0 at *
      have i1 := HI1.out.at_below HB0.out
      have i2 := HI2.out.at_below HB0.out
      have hzz := HB0.out.size
      refine (isValidCalendar_any f t d _ _ _ _ us vs w0 (IntsIn.at (i1.mono (Zone.below_le hzz))) (IntsIn.at (i2.mono (Zone.below_le hzz))) hn hm).mono ?_
      rintro e w1 ⟨rfl, hb1⟩
      rw [hcal]
      have HC1 := Lib.hid (HC0.out.below hb1 HC0.out.lt)
      have HZ1 := Lib.hid (HZ0.out.below hb1 HZ0.out.lt)
      have HB1 := Lib.hid (HB0.out.trans (hb1.mono hzz))
      have hz1 := hb1.size
      clear i1 i2 hb1
      obtain ⟨c0, c1, c2, c3, c4, c5, c6⟩ := HC1.out
      obtain ⟨z0, z1, z2, z3, z4, z5, z6⟩ := HZ1.out
      go_wp2_with fail
      refine (byWeekday_any d day _ hd0 hd1 hD0 hD1).mono ?_
      rintro e wb ⟨rfl, rfl⟩
      rw [hu]
      have HF3 : Hid (FB (w1.alloc (.cells #[.int .i64 f, .int .i64 t, .int .i64 d, .slice (some ⟨bu, ou, none⟩) us.length ca, .slice (some ⟨bv, ov, none⟩) vs.length cr] 24)) w1.heap.size f t d (.slice (some ⟨bu, ou, none⟩) us.length ca) (.slice (some ⟨bv, ov, none⟩) vs.length cr)) := Lib.hid ⟨by go_simp, by go_simp, by go_simp, by go_simp, by go_simp, fun j => by go_simp, by simp⟩
      have hb3 : Below w1.heap.size w1 (w1.alloc (.cells #[.int .i64 f, .int .i64 t, .int .i64 d, .slice (some ⟨bu, ou, none⟩) us.length ca, .slice (some ⟨bv, ov, none⟩) vs.length cr] 24)) := by go_grown
      have HC3 := Lib.hid (HC1.out.below hb3 HC1.out.lt)
      have HZ3 := Lib.hid (HZ1.out.below hb3 HZ1.out.lt)
      have HB3 := Lib.hid (HB1.out.trans (hb3.mono HB1.out.size))
      have hz3 : w1.heap.size < (w1.alloc (.cells #[.int .i64 f, .int .i64 t, .int .i64 d, .slice (some ⟨bu, ou, none⟩) us.length ca, .slice (some ⟨bv, ov, none⟩) vs.length cr] 24)).heap.size := by simp
      clear hb3
      go_wp2_with fail
      generalize (w1.alloc (.cells #[.int .i64 f, .int .i64 t, .int .i64 d, .slice (some ⟨bu, ou, none⟩) us.length ca, .slice (some ⟨bv, ov, none⟩) vs.length cr] 24)) = w3 at *
      have hw3 := HB3.out.size
      clear c0 c1 c2 c3 c4 c5 c6 z0 z1 z2 z3 z4 z5 z6
      refine (HW1.out w3 ((HI1.out.at_below HB3.out).mono (Zone.below_le hw3))).mono ?_
      rintro e w4 ⟨A1, n1, k1, a1, rfl, hn1, hi1, ha1, hb4⟩
      subst hn1
      have HF4 := Lib.hid (HF3.out.below hb4 HF3.out.lt)
      have HC4 := Lib.hid (HC3.out.below hb4 HC3.out.lt)
      have HZ4 := Lib.hid (HZ3.out.below hb4 HZ3.out.lt)
      have HB4 := Lib.hid (HB3.out.trans (hb4.mono hw3))
      have HA1 := Lib.hid hi1
      have HE1 := Lib.hid ha1
      have hz4 := hb4.size
      have hne1 : w.heap.size ≠ w1.heap.size := by omega
      have hne2 : w.heap.size + 1 ≠ w1.heap.size := by omega
      have d3 := HF4.out.c3
      have d5 := HF4.out.fr 3
      have HC5 : Hid (FB (w4.setCell ⟨w1.heap.size, 3, none⟩ (.slice A1 U.length k1)) w.heap.size f t d (.slice (some ⟨bu, ou, none⟩) us.length ca) (.slice (some ⟨bv, ov, none⟩) vs.length cr)) := Lib.hid (HC4.out.off (p := ⟨w1.heap.size, 3, none⟩) hne1 _)
      have HZ5 := Lib.hid (HZ4.out.off (p := ⟨w1.heap.size, 3, none⟩) hne2 (.slice A1 U.length k1))
      have HF5 := Lib.hid (HF4.out.setA (.slice A1 U.length k1))
      have HB5 := Lib.hid (HB4.out.setCell (p := ⟨w1.heap.size, 3, none⟩) (by show w.heap.size ≤ w1.heap.size; omega) (.slice A1 U.length k1))
      have HA5 : Hid (IntsIn (w4.setCell ⟨w1.heap.size, 3, none⟩ (.slice A1 U.length k1)) (Zone.only a1) A1 U) := Lib.hid (only_keep hi1 (fun hx => Same.set w4 (p := ⟨w1.heap.size, 3, none⟩) (by have := ha1 hx; show a1 ≠ w1.heap.size; omega) _))
      have hz5 : (w4.setCell ⟨w1.heap.size, 3, none⟩ (.slice A1 U.length k1)).heap.size = w4.heap.size := by rw [size_set]
      have x4 := HC5.out.c4
      clear hi1 ha1 hb4 hne1 hne2
      go_wp2_with fail
      generalize (w4.setCell ⟨w1.heap.size, 3, none⟩ (.slice A1 U.length k1)) = w5 at *
      have hw5 := HB5.out.size
      clear d3 d5 x4
      refine (HW2.out w5 ((HI2.out.at_below HB5.out).mono (Zone.below_le hw5))).mono ?_
      rintro e w6 ⟨A2, n2, k2, a2, rfl, hn2, hi2, ha2, hb6⟩
      subst hn2
      have HF6 := Lib.hid (HF5.out.below hb6 HF5.out.lt)
      have HZ6 := Lib.hid (HZ5.out.below hb6 HZ5.out.lt)
      have HB6 := Lib.hid (HB5.out.trans (hb6.mono hw5))
      have hz6 := hb6.size
      have hne2 : w.heap.size + 1 ≠ w1.heap.size := by omega
      have d4 := HF6.out.c4
      have d5 := HF6.out.fr 4
      have HF9 := Lib.hid (HF6.out.setR (.slice A2 V.length k2))
      have HZ9 := Lib.hid (HZ6.out.off (p := ⟨w1.heap.size, 4, none⟩) hne2 (.slice A2 V.length k2))
      have HB9 := Lib.hid (HB6.out.setCell (p := ⟨w1.heap.size, 4, none⟩) (by show w.heap.size ≤ w1.heap.size; omega) (.slice A2 V.length k2))
      have hlo : w.heap.size + 1 < w3.heap.size := by omega
      obtain ⟨lo, hloe⟩ : ∃ lo, lo = w3.heap.size := ⟨_, rfl⟩
      have HO9 : Hid (CalO (w6.setCell ⟨w1.heap.size, 4, none⟩ (.slice A2 V.length k2)) lo (w6.setCell ⟨w1.heap.size, 4, none⟩ (.slice A2 V.length k2)).heap.size A1 A2 U V) := Lib.hid (by
        rw [hloe]
        have s1 : IntsIn w6 (Zone.only a1) A1 U := only_keep HA5.out (fun hx => Same.of_below hb6 (by have := HE1.out hx; omega))
        refine calO_two (only_keep s1 (fun hx => Same.set w6 (p := ⟨w1.heap.size, 4, none⟩) (by have := HE1.out hx; show a1 ≠ w1.heap.size; omega) _)) (only_keep hi2 (fun hx => Same.set w6 (p := ⟨w1.heap.size, 4, none⟩) (by have := ha2 hx; show a2 ≠ w1.heap.size; omega) _)) (fun hx => ?_) (fun hx => ?_) (fun hx hy => ?_)
        · rw [size_set]; have := HE1.out hx; omega
        · rw [size_set]; have := ha2 hx; omega
        · have := HE1.out hx; have := ha2 hy; omega)
      rw [← hloe] at hlo
      obtain ⟨y0, y1, y2, y3, y4, y5, y6⟩ := HF9.out
      clear hi2 ha2 hb6 hne2
      go_wp2_with fail
      generalize (w6.setCell ⟨w1.heap.size, 4, none⟩ (.slice A2 V.length k2)) = w9 at *
      have HC9 := HF9
      clear y0 y1 y2 y3 y4 y5 y6 d4 d5
      have hUL : U.length ≤ 1048576 := by rw [HU.out]; exact Nat.le_trans (wdL_len _ _ _) (by omega)
      have hVL : V.length ≤ 1048576 := by rw [HV.out]; exact Nat.le_trans (wdL_len _ _ _) (by omega)
      have hG := isValidCalendar_any f t d A1 A2 k1 k2 U V w9 (IntsIn.at (HO9.out.to_below (Nat.le_refl _)).u) (IntsIn.at (HO9.out.to_below (Nat.le_refl _)).v) hUL hVL
      have HG := Lib.hid hG
      clear hG
      cases hc2 : calB f t d U V
      · skip
        have HN : Hid (exB f t d us vs day true = false) := Lib.hid (exB_c (by rw [← HU.out, ← HV.out]; exact hc2))
        refine (HG.out.mono ?_)
        rintro e wa ⟨rfl, hba⟩
        rw [hc2]
        have HZa := Lib.hid (HZ9.out.below hba HZ9.out.lt)
        have HCa := Lib.hid (HC9.out.below hba HC9.out.lt)
        have HBa := Lib.hid (HB9.out.trans (hba.mono HB9.out.size))
        have HOa := Lib.hid ((HO9.out.new_call hba (Nat.le_refl _)).wide (Nat.le_refl _) hba.size)
        clear hba
        obtain ⟨c0, c1', c2', c3, c4, c5, c6⟩ := HCa.out
        obtain ⟨z0, z1, z2, z3, z4, z5, z6⟩ := HZa.out
        go_wp2_with fail
        refine bodyPost_ret (v := .tuple #[.agg #[.int .i64 0, .int .i64 0, .int .i64 0, .slice none 0 0, .slice none 0 0], .bool false]) (by simp [results, Try.results35, go_sem, z0, z1, z2, z3, z4]) rfl ?_
        refine retExN HN.out ?_
        repeat' (refine Below.setCell ?_ (by simp) _)
        exact HBa.out
      · skip
        have HN : Hid (exB f t d us vs day true = true) := Lib.hid (exB_y HH.out (by rw [← HU.out, ← HV.out]; exact hc2))
        refine (HG.out.mono ?_)
        rintro e wa ⟨rfl, hba⟩
        rw [hc2]
        have HZa := Lib.hid (HZ9.out.below hba HZ9.out.lt)
        have HCa := Lib.hid (HC9.out.below hba HC9.out.lt)
        have HBa := Lib.hid (HB9.out.trans (hba.mono HB9.out.size))
        have HOa := Lib.hid ((HO9.out.new_call hba (Nat.le_refl _)).wide (Nat.le_refl _) hba.size)
        clear hba
        obtain ⟨c0, c1', c2', c3, c4, c5, c6⟩ := HCa.out
        obtain ⟨z0, z1, z2, z3, z4, z5, z6⟩ := HZa.out
        go_wp2_with fail
        refine bodyPost_ret (v := .tuple #[.agg #[.int .i64 f, .int .i64 t, .int .i64 d, .slice A1 U.length k1, .slice A2 V.length k2], .bool true]) (by simp [results, Try.results35, go_sem, z0, z1, z2, z3, z4]) rfl ?_
        refine retExY HN.out HU.out HV.out (lo := lo) ?_ (by omega) ?_
        · simp only [size_set]
          repeat' (refine CalO.set ?_ (by simpa using hlo) _)
          exact HOa.out
        · repeat' (refine Below.setCell ?_ (by simp) _)
          exact HBa.out
end Go.Proofs.Ytambgommeannnaa
