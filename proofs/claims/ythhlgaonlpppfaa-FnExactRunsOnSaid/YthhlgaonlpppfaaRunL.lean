/- The walk of the law of RunsOn. -/
import Derived.Test.YthhlgaonlpppfaaRun
import Derived.Test.YthhlgaonlpppfaaOpenC
namespace Go.Proofs.Ythhlgaonlpppfaa
open Go.ChangeShapes Go.WideShapes Go.ChangeAt Go.RowKit Go.PlainAid
set_option linter.unusedVariables false

theorem calB_ok {f t d : Int} {us vs : List Int} (h : calB f t d us vs = true) : CalOk f t d us vs := of_decide_eq_true h
/-- What RunsOn returns. -/
def roB (f t d : Int) (us vs : List Int) (day : Int) : Bool := calB f t d us vs && inB day 0 3650
def roA (f t d : Int) (us vs : List Int) (day : Int) : Bool := roB f t d us vs day && runB f t d us vs day

set_option maxRecDepth 100000 in
set_option maxHeartbeats 1000000 in
theorem specRunsOn_any (f t d : Int) (A R : Option Addr) (ca cr : Nat) (us vs : List Int) (day : Int) (w : World) (h1 : IntsAt w w.heap.size A us) (h2 : IntsAt w w.heap.size R vs) (hn : us.length ≤ 1048576) (hm : vs.length ≤ 1048576) :
    Calls Try.prog 14 #[.agg #[.int .i64 f, .int .i64 t, .int .i64 d, .slice A us.length ca, .slice R vs.length cr], .int .i64 day] w fun e w' => e = .returned (.tuple #[.bool (roA f t d us vs day), .bool (roB f t d us vs day)]) ∧ Below w.heap.size w w' := by
  have H1 := Lib.hid h1
  have H2 := Lib.hid h2
  clear h1 h2
  cases g1 : calB f t d us vs
  · have HF := Lib.hid (show roA f t d us vs day = false ∧ roB f t d us vs day = false by unfold roA roB; rw [g1]; exact ⟨rfl, rfl⟩)
    go_enter Try.func14, Try.ntmps14
    go_wp2_with fail
    refine (l3Good_any _ _ _ _ _ _ _ _ _ _ (H1.out.call (by go_grown)) (H2.out.call (by go_grown)) hn hm).mono ?_
    rintro e w1 ⟨rfl, hb1⟩
    obtain ⟨hc1, hf1, hl1⟩ := bcell3 hb1
    have HB1 : Hid (Below w.heap.size w w1) := bel_of (by go_grown) (by simp) hb1
    have hs1 := hb1.size
    simp at hs1
    have H1' := Lib.hid (H1.out.call HB1.out)
    have H2' := Lib.hid (H2.out.call HB1.out)
    clear hb1
    go_wp2_with fail
    go_ret2
    exact ⟨by rw [HF.out.1, HF.out.2]; rfl, HB1.out⟩
  · cases g2 : inB day 0 3650
    · have HF := Lib.hid (show roA f t d us vs day = false ∧ roB f t d us vs day = false by unfold roA roB; rw [g1, g2]; exact ⟨rfl, rfl⟩)
      go_enter Try.func14, Try.ntmps14
      go_wp2_with fail
      refine (l3Good_any _ _ _ _ _ _ _ _ _ _ (H1.out.call (by go_grown)) (H2.out.call (by go_grown)) hn hm).mono ?_
      rintro e w1 ⟨rfl, hb1⟩
      obtain ⟨hc1, hf1, hl1⟩ := bcell3 hb1
      have HB1 : Hid (Below w.heap.size w w1) := bel_of (by go_grown) (by simp) hb1
      have hs1 := hb1.size
      simp at hs1
      have H1' := Lib.hid (H1.out.call HB1.out)
      have H2' := Lib.hid (H2.out.call HB1.out)
      clear hb1
      go_wp2_with (first | (go_at_call 50; refine (l3Day_any _ _).mono ?_; rintro e w2 ⟨rfl, rfl⟩))
      go_ret2
      exact ⟨by rw [HF.out.1, HF.out.2]; rfl, HB1.out⟩
    · have HF := Lib.hid (show roA f t d us vs day = runB f t d us vs day ∧ roB f t d us vs day = true by unfold roA roB; rw [g1, g2]; exact ⟨rfl, rfl⟩)
      have g3 := inB_iff.1 g2
      have HO := Lib.hid (calB_ok g1)
      have hh := HO.out.1
      unfold HeadB at hh
      obtain ⟨k1, k2, k3, k4, k5, _, _⟩ := hh
      go_enter Try.func14, Try.ntmps14
      go_wp2_with fail
      refine (l3Good_any _ _ _ _ _ _ _ _ _ _ (H1.out.call (by go_grown)) (H2.out.call (by go_grown)) hn hm).mono ?_
      rintro e w1 ⟨rfl, hb1⟩
      obtain ⟨hc1, hf1, hl1⟩ := bcell3 hb1
      have HB1 : Hid (Below w.heap.size w w1) := bel_of (by go_grown) (by simp) hb1
      have hs1 := hb1.size
      simp at hs1
      have H1' := Lib.hid (H1.out.call HB1.out)
      have H2' := Lib.hid (H2.out.call HB1.out)
      clear hb1
      go_wp2_with (first | (go_at_call 50; refine (l3Day_any _ _).mono ?_; rintro e w2 ⟨rfl, rfl⟩) | fail)
      refine (l3Runs_any _ _ _ _ _ _ _ _ _ _ _ (H1'.out) (H2'.out) hn hm g3.1 g3.2 k4 k5).mono ?_
      rintro e w3 ⟨rfl, hb3⟩
      have HB3 : Hid (Below w.heap.size w w3) := bel_of HB1.out (by omega) hb3
      clear hb3
      go_wp2_with fail
      go_ret2
      exact ⟨by rw [HF.out.1, HF.out.2]; rfl, HB3.out⟩

set_option maxRecDepth 100000 in
set_option maxHeartbeats 1000000 in
theorem implRunsOn_any (f t d : Int) (A R : Option Addr) (ca cr : Nat) (us vs : List Int) (day : Int) (w : World) (h1 : IntsAt w w.heap.size A us) (h2 : IntsAt w w.heap.size R vs) (hn : us.length ≤ 1048576) (hm : vs.length ≤ 1048576) :
    Calls Try.prog 16 #[.agg #[.int .i64 f, .int .i64 t, .int .i64 d, .slice A us.length ca, .slice R vs.length cr], .int .i64 day] w fun e w' => e = .returned (.tuple #[.bool (roA f t d us vs day), .bool (roB f t d us vs day)]) ∧ Below w.heap.size w w' := by
  have H1 := Lib.hid h1
  have H2 := Lib.hid h2
  clear h1 h2
  cases g1 : calB f t d us vs
  · have HF := Lib.hid (show roA f t d us vs day = false ∧ roB f t d us vs day = false by unfold roA roB; rw [g1]; exact ⟨rfl, rfl⟩)
    go_enter Try.func16, Try.ntmps16
    go_wp2_with fail
    refine (isValidCalendar_any _ _ _ _ _ _ _ _ _ _ (H1.out.call (by go_grown)) (H2.out.call (by go_grown)) hn hm).mono ?_
    rintro e w1 ⟨rfl, hb1⟩
    obtain ⟨hc1, hf1, hl1⟩ := bcell3 hb1
    have HB1 : Hid (Below w.heap.size w w1) := bel_of (by go_grown) (by simp) hb1
    have hs1 := hb1.size
    simp at hs1
    have H1' := Lib.hid (H1.out.call HB1.out)
    have H2' := Lib.hid (H2.out.call HB1.out)
    clear hb1
    go_wp2_with fail
    go_ret2
    exact ⟨by rw [HF.out.1, HF.out.2]; rfl, HB1.out⟩
  · cases g2 : inB day 0 3650
    · have HF := Lib.hid (show roA f t d us vs day = false ∧ roB f t d us vs day = false by unfold roA roB; rw [g1, g2]; exact ⟨rfl, rfl⟩)
      go_enter Try.func16, Try.ntmps16
      go_wp2_with fail
      refine (isValidCalendar_any _ _ _ _ _ _ _ _ _ _ (H1.out.call (by go_grown)) (H2.out.call (by go_grown)) hn hm).mono ?_
      rintro e w1 ⟨rfl, hb1⟩
      obtain ⟨hc1, hf1, hl1⟩ := bcell3 hb1
      have HB1 : Hid (Below w.heap.size w w1) := bel_of (by go_grown) (by simp) hb1
      have hs1 := hb1.size
      simp at hs1
      have H1' := Lib.hid (H1.out.call HB1.out)
      have H2' := Lib.hid (H2.out.call HB1.out)
      clear hb1
      go_wp2_with (first | (go_at_call 53; refine (isDay_any _ _).mono ?_; rintro e w2 ⟨rfl, rfl⟩))
      go_ret2
      exact ⟨by rw [HF.out.1, HF.out.2]; rfl, HB1.out⟩
    · have HF := Lib.hid (show roA f t d us vs day = runB f t d us vs day ∧ roB f t d us vs day = true by unfold roA roB; rw [g1, g2]; exact ⟨rfl, rfl⟩)
      have g3 := inB_iff.1 g2
      have HO := Lib.hid (calB_ok g1)
      have hh := HO.out.1
      unfold HeadB at hh
      obtain ⟨k1, k2, k3, k4, k5, _, _⟩ := hh
      go_enter Try.func16, Try.ntmps16
      go_wp2_with fail
      refine (isValidCalendar_any _ _ _ _ _ _ _ _ _ _ (H1.out.call (by go_grown)) (H2.out.call (by go_grown)) hn hm).mono ?_
      rintro e w1 ⟨rfl, hb1⟩
      obtain ⟨hc1, hf1, hl1⟩ := bcell3 hb1
      have HB1 : Hid (Below w.heap.size w w1) := bel_of (by go_grown) (by simp) hb1
      have hs1 := hb1.size
      simp at hs1
      have H1' := Lib.hid (H1.out.call HB1.out)
      have H2' := Lib.hid (H2.out.call HB1.out)
      clear hb1
      go_wp2_with (first | (go_at_call 53; refine (isDay_any _ _).mono ?_; rintro e w2 ⟨rfl, rfl⟩) | fail)
      refine (runsOn_any _ _ _ _ _ _ _ _ _ _ _ (H1'.out) (H2'.out) hn hm HO.out).mono ?_
      rintro e w3 ⟨rfl, hb3⟩
      have HB3 : Hid (Below w.heap.size w w3) := by rw [hb3]; exact HB1.out.alloc (by omega) _
      clear hb3
      go_wp2_with fail
      go_ret2
      exact ⟨by rw [HF.out.1, HF.out.2]; rfl, HB3.out⟩

set_option maxRecDepth 100000 in
set_option maxHeartbeats 2000000 in
theorem fnRunsOn_walk (v : Value) (x : (Int × Int × Int) × (List Int × List Int)) (day : Int) (wday : (Lit.int .i64 day).wf = true) (w : World) (hx : LCal w v x) :
    Calls Try.prog 3 #[v, .int .i64 day] w fun e w' => e = .returned (.bool true) ∧ Below w.heap.size w w' := by
  obtain ⟨⟨f, t, d⟩, us, vs⟩ := x
  obtain ⟨A, ca, R, cr, rfl, hA, hR, hl1, hl2⟩ := hx
  simp only [] at hA hR hl1 hl2 ⊢
  have HA := Lib.hid hA
  have HR := Lib.hid hR
  clear hA hR
  by_cases hz : szC us.length vs.length 1048576 < 0
  · go_enter Try.func3, Try.ntmps3
    go_wp2_with (go_at_call 13; refine (szCalendar_any _ _ _ _ _ _ _ _ _ _ _ (by omega) (by omega) (by omega) (by omega)).mono ?_; rintro e w1 ⟨rfl, rfl⟩)
    go_ret
    exact ⟨rfl, by go_grown⟩
  · obtain ⟨hn, hm⟩ := szC_pos hz
    go_enter Try.func3, Try.ntmps3
    go_wp2_with (first | (go_at_call 13; refine (szCalendar_any _ _ _ _ _ _ _ _ _ _ _ (by omega) (by omega) (by omega) (by omega)).mono ?_; rintro e w1 ⟨rfl, rfl⟩) | fail)
    refine (toCalendar_any _ _ _ _ _ _ _ _ _ _ (HA.out.call (by go_grown)) (HR.out.call (by go_grown)) hn hm).mono ?_
    rintro e w1 ⟨g, g', rfl, _, _, _, i1, i2, hb1⟩
    have HB1 : Hid (Below w.heap.size w w1) := bel_of (by go_grown) (by simp; omega) hb1
    have HC1 : Hid (Cal5 w1 w.heap.size f t d A us.length ca R vs.length cr) := Cal5.below (B := _) ⟨by go_simp, by go_simp, by go_simp, by go_simp, by go_simp⟩ hb1 (by simp; omega)
    have hs1 : w.heap.size < w1.heap.size := by have := hb1.size; simp at this; omega
    have I1 := Lib.hid i1
    have I2 := Lib.hid i2
    clear i1 i2 hb1
    go_wp2_with fail
    refine (specRunsOn_any _ _ _ _ _ _ _ _ _ _ _ I1.out I2.out hn hm).mono ?_
    rintro e w2 ⟨rfl, hb2⟩
    have HB2 : Hid (Below w.heap.size w w2) := bel_of HB1.out (by omega) hb2
    have hs2 : w.heap.size < w2.heap.size := by have := hb2.size; omega
    have HC2 := Lib.hid (HC1.out.below hb2 hs1)
    clear I1 I2 hb2 HC1 HB1 hs1
    obtain ⟨c0, c1, c2, c3, c4⟩ := HC2.out
    go_wp2_with fail
    refine (toCalendar_any _ _ _ _ _ _ _ _ _ _ (HA.out.call HB2.out) (HR.out.call HB2.out) hn hm).mono ?_
    rintro e w3 ⟨h, h', rfl, _, _, _, j1, j2, hb3⟩
    have HB3 : Hid (Below w.heap.size w w3) := bel_of HB2.out (by omega) hb3
    have hs3 : w.heap.size < w3.heap.size := by have := hb3.size; omega
    have HC3 := Lib.hid (HC2.out.below hb3 hs2)
    have J1 := Lib.hid j1
    have J2 := Lib.hid j2
    clear j1 j2 hb3 HC2 HB2 hs2 c0 c1 c2 c3 c4
    go_wp2_with fail
    refine (implRunsOn_any _ _ _ _ _ _ _ _ _ _ _ (J1.out.alloc _) (J2.out.alloc _) hn hm).mono ?_
    rintro e w4 ⟨rfl, hb4⟩
    have HB4 : Hid (Below w.heap.size w w4) := bel_of (HB3.out.alloc (by omega) _) (by simp; omega) hb4
    have hs4 : w.heap.size < w4.heap.size := by have := hb4.size; simp at this; omega
    have ht4 : w3.heap.size < w4.heap.size := by have := hb4.size; simp at this; omega
    have HC4 : Hid (Cal5 w4 w.heap.size f t d A us.length ca R vs.length cr) := (HC3.out.below ((Below.refl _ _).alloc (Nat.le_refl _) _) hs3).below hb4 (by simp; omega)
    have HD4 : Hid (Cal5 w4 w3.heap.size f t d (some ⟨h, 0, none⟩) us.length us.length (some ⟨h', 0, none⟩) vs.length vs.length) := Cal5.below ⟨by go_simp, by go_simp, by go_simp, by go_simp, by go_simp⟩ hb4 (by simp)
    have K1 := Lib.hid ((J1.out.alloc _).call hb4)
    have K2 := Lib.hid ((J2.out.alloc _).call hb4)
    clear J1 J2 hb4 HC3 HB3
    go_wp2_with fail
    have hC : ∀ w', Below w4.heap.size w4 w' → Cal5 w' w.heap.size f t d A us.length ca R vs.length cr := fun w' hb => HC4.out.below hb hs4
    have hD : ∀ w', Below w4.heap.size w4 w' → Cal5 w' w3.heap.size f t d (some ⟨h, 0, none⟩) us.length us.length (some ⟨h', 0, none⟩) vs.length vs.length := fun w' hb => HD4.out.below hb ht4
    unfold Cal5 at hC hD
    go_region_held3 (fun w' => Below w4.heap.size w4 w') (repeat' first | assumption | exact Nat.le_refl _ | exact Below.refl _ _ | (refine bel_drew ?_) | (refine bel_alloc ?_ _) | (refine bel_set ?_ ?_ _))
      (first
        | (go_at_call 15; refine (toCalendar_any _ _ _ _ _ _ _ _ _ _ (HA.out.call (HB4.out.trans ((‹Below w4.heap.size w4 _› : Below w4.heap.size w4 _).mono HB4.out.size))) (HR.out.call (HB4.out.trans ((‹Below w4.heap.size w4 _› : Below w4.heap.size w4 _).mono HB4.out.size))) hn hm).mono ?_; rintro e w5 ⟨g5, g6, rfl, _, _, _, m1, m2, hb5⟩; have hB5 := bel_call ‹Below w4.heap.size w4 _› hb5; have M1 := Lib.hid m1; have M2 := Lib.hid m2; clear m1 m2 hb5)
        | (go_at_call 17; refine (eqCalendar_same _ _ _ _ _ _ _ _ _ _ _ _ _ _ (K1.out.call ‹Below w4.heap.size w4 _›) (K2.out.call ‹Below w4.heap.size w4 _›) M1.out M2.out hn hm).mono ?_; rintro e w6 ⟨rfl, hb6⟩; have hB6 := bel_call ‹Below w4.heap.size w4 w5› hb6; clear hb6))
    all_goals
      clear hC hD
      go_wp2_with fail
      go_ret
      exact ⟨rfl, bel_of HB4.out (by omega) hB6⟩
end Go.Proofs.Ythhlgaonlpppfaa
