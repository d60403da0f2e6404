/- The walk of the law of CountDays. -/
import Derived.Test.YthhlgaonlpppfaaRunC
import Derived.Test.YthhlgaonlpppfaaOpenC
namespace Go.Proofs.Ythhlgaonlpppfaa
open Go.ChangeShapes Go.WideShapes Go.ChangeAt Go.RowKit Go.PlainAid
set_option linter.unusedVariables false

/-- How many numbers below k have a property. -/
def cntN (p : Nat → Bool) : Nat → Int
  | 0 => 0
  | k + 1 => cntN p k + if p k = true then 1 else 0
theorem cntN_bd (p : Nat → Bool) (k : Nat) : 0 ≤ cntN p k ∧ cntN p k ≤ k := by
  induction k with
  | zero => simp [cntN]
  | succ k ih => unfold cntN; split <;> omega
theorem cntN_no {p : Nat → Bool} {k : Nat} (h : p k = false) : cntN p (k + 1) = cntN p k := by show cntN p k + _ = _; rw [h]; simp
theorem cntN_yes {p : Nat → Bool} {k : Nat} (h : p k = true) : cntN p (k + 1) = cntN p k + 1 := by show cntN p k + _ = _; rw [if_pos h]
/-- How many days a calendar runs. -/
def cdN (f t d : Int) (us vs : List Int) : Int := if calB f t d us vs = true then cntN (fun k => runB f t d us vs (f + k)) (t + 1 - f).toNat else 0

set_option maxRecDepth 100000 in
set_option maxHeartbeats 2000000 in
theorem specCountDays_any (f t d : Int) (A R : Option Addr) (ca cr : Nat) (us vs : List Int) (w : World) (h1 : IntsAt w w.heap.size A us) (h2 : IntsAt w w.heap.size R vs) (hn : us.length ≤ 1048576) (hm : vs.length ≤ 1048576) :
    Calls Try.prog 18 #[.agg #[.int .i64 f, .int .i64 t, .int .i64 d, .slice A us.length ca, .slice R vs.length cr]] w fun e w' => e = .returned (.tuple #[.int .i64 (cdN f t d us vs), .bool (calB f t d us vs)]) ∧ Below w.heap.size w w' := by
  have H1 := Lib.hid h1
  have H2 := Lib.hid h2
  clear h1 h2
  cases g1 : calB f t d us vs
  · have HF := Lib.hid (show cdN f t d us vs = 0 by unfold cdN; rw [g1]; rfl)
    go_enter Try.func18, Try.ntmps18
    go_wp2_with fail
    refine (l3Good_any _ _ _ _ _ _ _ _ _ _ (H1.out.call (by go_grown)) (H2.out.call (by go_grown)) hn hm).mono ?_
    rintro e W ⟨rfl, hb1⟩
    have HC : Hid (Cal5 W w.heap.size f t d A us.length ca R vs.length cr) := Cal5.below (B := _) ⟨by go_simp, by go_simp, by go_simp, by go_simp, by go_simp⟩ hb1 (by simp)
    have HB1 : Hid (Below w.heap.size w W) := bel_of (by go_grown) (by simp) hb1
    have hs1 : w.heap.size < W.heap.size := by have := hb1.size; simp at this; omega
    have H1' := Lib.hid (H1.out.call HB1.out)
    have H2' := Lib.hid (H2.out.call HB1.out)
    clear hb1
    go_wp2_with fail
    go_ret2
    exact ⟨by rw [HF.out]; rfl, HB1.out⟩
  · have HO := Lib.hid (calB_ok g1)
    have HF := Lib.hid (show cdN f t d us vs = cntN (fun k => runB f t d us vs (f + k)) (t + 1 - f).toNat by unfold cdN; rw [g1]; rfl)
    have hh := HO.out.1
    unfold HeadB at hh
    obtain ⟨k1, k2, k3, k4, k5, _, _⟩ := hh
    go_enter Try.func18, Try.ntmps18
    go_wp2_with fail
    refine (l3Good_any _ _ _ _ _ _ _ _ _ _ (H1.out.call (by go_grown)) (H2.out.call (by go_grown)) hn hm).mono ?_
    rintro e W ⟨rfl, hb1⟩
    have HC : Hid (Cal5 W w.heap.size f t d A us.length ca R vs.length cr) := Cal5.below (B := _) ⟨by go_simp, by go_simp, by go_simp, by go_simp, by go_simp⟩ hb1 (by simp)
    have HB1 : Hid (Below w.heap.size w W) := bel_of (by go_grown) (by simp) hb1
    have hs1 : w.heap.size < W.heap.size := by have := hb1.size; simp at this; omega
    have H1' := Lib.hid (H1.out.call HB1.out)
    have H2' := Lib.hid (H2.out.call HB1.out)
    clear hb1
    obtain ⟨c0, c1, c2, c3, c4⟩ := HC.out
    go_wp2_with fail
    clear c0 c1 c2 c3 c4
    go_loopw [4, 5] (fun n i wr => ∃ k : Nat, f + k ≤ t + 1 ∧ i = .int .i64 (f + k) ∧ n = .int .i64 (cntN (fun k => runB f t d us vs (f + k)) k) ∧ Below W.heap.size W wr) (fun _ i _ => (t + 1 - intOf i).toNat)
    case atStart => exact ⟨0, by omega, by go_num, rfl, Below.refl _ _⟩
    case round =>
      obtain ⟨k, hk, rfl, rfl, hb⟩ := hrel
      have HB := Lib.hid hb
      obtain ⟨c0, c1, c2, c3, c4⟩ := HC.out.below hb hs1
      have hcn := cntN_bd (fun k => runB f t d us vs (f + k)) k
      have hcn1 := hcn.1
      have hcn2 := hcn.2
      clear hb hcn
      by_cases hle : f + k ≤ t
      · cases hr : runB f t d us vs (f + k)
        · have HS := Lib.hid (show cntN (fun k => runB f t d us vs (f + k)) (k + 1) = cntN (fun k => runB f t d us vs (f + k)) k from cntN_no hr)
          generalize cntN (fun k => runB f t d us vs (f + k)) k = z at *
          go_wp2_with (first | (go_at_call 51; refine (l3RunsC _ _ _ _ _ _ _ _ _ _ _ (H1'.out.call HB.out) (H2'.out.call HB.out) hn hm HO.out (by omega) (by omega)).mono ?_; rintro e w2 ⟨rfl, hb2⟩; have HB2 := Lib.hid (bel_call HB.out hb2); clear hb2))
          go_roundw
          case rel => exact ⟨k + 1, by omega, by go_num, by rw [HS.out], HB2.out⟩
          case measure => simp [intOf]; omega
        · have HS := Lib.hid (show cntN (fun k => runB f t d us vs (f + k)) (k + 1) = cntN (fun k => runB f t d us vs (f + k)) k + 1 from cntN_yes hr)
          generalize cntN (fun k => runB f t d us vs (f + k)) k = z at *
          go_wp2_with (first | (go_at_call 51; refine (l3RunsC _ _ _ _ _ _ _ _ _ _ _ (H1'.out.call HB.out) (H2'.out.call HB.out) hn hm HO.out (by omega) (by omega)).mono ?_; rintro e w2 ⟨rfl, hb2⟩; have HB2 := Lib.hid (bel_call HB.out hb2); clear hb2))
          go_roundw
          case rel => exact ⟨k + 1, by omega, by go_num, by rw [HS.out], HB2.out⟩
          case measure => simp [intOf]; omega
      · have HS := Lib.hid (HF.out.trans (by rw [show (t + 1 - f).toNat = k by omega]))
        generalize cntN (fun k => runB f t d us vs (f + k)) k = z at *
        go_wp2_with fail
        go_ret2
        exact ⟨by rw [HS.out]; rfl, bel_of HB1.out (by omega) HB.out⟩

set_option maxRecDepth 100000 in
set_option maxHeartbeats 2000000 in
theorem implCountDays_any (f t d : Int) (A R : Option Addr) (ca cr : Nat) (us vs : List Int) (w : World) (h1 : IntsAt w w.heap.size A us) (h2 : IntsAt w w.heap.size R vs) (hn : us.length ≤ 1048576) (hm : vs.length ≤ 1048576) :
    Calls Try.prog 19 #[.agg #[.int .i64 f, .int .i64 t, .int .i64 d, .slice A us.length ca, .slice R vs.length cr]] w fun e w' => e = .returned (.tuple #[.int .i64 (cdN f t d us vs), .bool (calB f t d us vs)]) ∧ Below w.heap.size w w' := by
  have H1 := Lib.hid h1
  have H2 := Lib.hid h2
  clear h1 h2
  cases g1 : calB f t d us vs
  · have HF := Lib.hid (show cdN f t d us vs = 0 by unfold cdN; rw [g1]; rfl)
    go_enter Try.func19, Try.ntmps19
    go_wp2_with fail
    refine (isValidCalendar_any _ _ _ _ _ _ _ _ _ _ (H1.out.call (by go_grown)) (H2.out.call (by go_grown)) hn hm).mono ?_
    rintro e W ⟨rfl, hb1⟩
    have HC : Hid (Cal5 W w.heap.size f t d A us.length ca R vs.length cr) := Cal5.below (B := _) ⟨by go_simp, by go_simp, by go_simp, by go_simp, by go_simp⟩ hb1 (by simp)
    have HB1 : Hid (Below w.heap.size w W) := bel_of (by go_grown) (by simp) hb1
    have hs1 : w.heap.size < W.heap.size := by have := hb1.size; simp at this; omega
    have H1' := Lib.hid (H1.out.call HB1.out)
    have H2' := Lib.hid (H2.out.call HB1.out)
    clear hb1
    go_wp2_with fail
    go_ret2
    exact ⟨by rw [HF.out]; rfl, HB1.out⟩
  · have HO := Lib.hid (calB_ok g1)
    have HF := Lib.hid (show cdN f t d us vs = cntN (fun k => runB f t d us vs (f + k)) (t + 1 - f).toNat by unfold cdN; rw [g1]; rfl)
    have hh := HO.out.1
    unfold HeadB at hh
    obtain ⟨k1, k2, k3, k4, k5, _, _⟩ := hh
    go_enter Try.func19, Try.ntmps19
    go_wp2_with fail
    refine (isValidCalendar_any _ _ _ _ _ _ _ _ _ _ (H1.out.call (by go_grown)) (H2.out.call (by go_grown)) hn hm).mono ?_
    rintro e W ⟨rfl, hb1⟩
    have HC : Hid (Cal5 W w.heap.size f t d A us.length ca R vs.length cr) := Cal5.below (B := _) ⟨by go_simp, by go_simp, by go_simp, by go_simp, by go_simp⟩ hb1 (by simp)
    have HB1 : Hid (Below w.heap.size w W) := bel_of (by go_grown) (by simp) hb1
    have hs1 : w.heap.size < W.heap.size := by have := hb1.size; simp at this; omega
    have H1' := Lib.hid (H1.out.call HB1.out)
    have H2' := Lib.hid (H2.out.call HB1.out)
    clear hb1
    obtain ⟨c0, c1, c2, c3, c4⟩ := HC.out
    go_wp2_with fail
    clear c0 c1 c2 c3 c4
    go_loopw [4, 5] (fun n i wr => ∃ k : Nat, f + k ≤ t + 1 ∧ i = .int .i64 (f + k) ∧ n = .int .i64 (cntN (fun k => runB f t d us vs (f + k)) k) ∧ Below W.heap.size W wr) (fun _ i _ => (t + 1 - intOf i).toNat)
    case atStart => exact ⟨0, by omega, by go_num, rfl, Below.refl _ _⟩
    case round =>
      obtain ⟨k, hk, rfl, rfl, hb⟩ := hrel
      have HB := Lib.hid hb
      obtain ⟨c0, c1, c2, c3, c4⟩ := HC.out.below hb hs1
      have hcn := cntN_bd (fun k => runB f t d us vs (f + k)) k
      have hcn1 := hcn.1
      have hcn2 := hcn.2
      clear hb hcn
      by_cases hle : f + k ≤ t
      · cases hr : runB f t d us vs (f + k)
        · have HS := Lib.hid (show cntN (fun k => runB f t d us vs (f + k)) (k + 1) = cntN (fun k => runB f t d us vs (f + k)) k from cntN_no hr)
          generalize cntN (fun k => runB f t d us vs (f + k)) k = z at *
          go_wp2_with (first | (go_at_call 54; refine (runsOnC _ _ _ _ _ _ _ _ _ _ _ (H1'.out.call HB.out) (H2'.out.call HB.out) hn hm HO.out (by omega) (by omega)).mono ?_; rintro e w2 ⟨rfl, hb2⟩; have HB2 := Lib.hid (bel_call HB.out hb2); clear hb2))
          go_roundw
          case rel => exact ⟨k + 1, by omega, by go_num, by rw [HS.out], HB2.out⟩
          case measure => simp [intOf]; omega
        · have HS := Lib.hid (show cntN (fun k => runB f t d us vs (f + k)) (k + 1) = cntN (fun k => runB f t d us vs (f + k)) k + 1 from cntN_yes hr)
          generalize cntN (fun k => runB f t d us vs (f + k)) k = z at *
          go_wp2_with (first | (go_at_call 54; refine (runsOnC _ _ _ _ _ _ _ _ _ _ _ (H1'.out.call HB.out) (H2'.out.call HB.out) hn hm HO.out (by omega) (by omega)).mono ?_; rintro e w2 ⟨rfl, hb2⟩; have HB2 := Lib.hid (bel_call HB.out hb2); clear hb2))
          go_roundw
          case rel => exact ⟨k + 1, by omega, by go_num, by rw [HS.out], HB2.out⟩
          case measure => simp [intOf]; omega
      · have HS := Lib.hid (HF.out.trans (by rw [show (t + 1 - f).toNat = k by omega]))
        generalize cntN (fun k => runB f t d us vs (f + k)) k = z at *
        go_wp2_with fail
        go_ret2
        exact ⟨by rw [HS.out]; rfl, bel_of HB1.out (by omega) HB.out⟩

set_option maxRecDepth 100000 in
set_option maxHeartbeats 2000000 in
theorem fnCountDays_walk (v : Value) (x : (Int × Int × Int) × (List Int × List Int)) (w : World) (hx : LCal w v x) :
    Calls Try.prog 4 #[v] w fun e w' => e = .returned (.bool true) ∧ Below w.heap.size w w' := by
  obtain ⟨⟨f, t, d⟩, us, vs⟩ := x
  obtain ⟨A, ca, R, cr, rfl, hA, hR, hl1, hl2⟩ := hx
  simp only [] at hA hR hl1 hl2 ⊢
  have HA := Lib.hid hA
  have HR := Lib.hid hR
  clear hA hR
  by_cases hz : szC us.length vs.length 1048576 < 0
  · go_enter Try.func4, Try.ntmps4
    go_wp2_with (go_at_call 13; refine (szCalendar_any _ _ _ _ _ _ _ _ _ _ _ (by omega) (by omega) (by omega) (by omega)).mono ?_; rintro e w1 ⟨rfl, rfl⟩)
    go_ret
    exact ⟨rfl, by go_grown⟩
  · obtain ⟨hn, hm⟩ := szC_pos hz
    go_enter Try.func4, Try.ntmps4
    go_wp2_with (first | (go_at_call 13; refine (szCalendar_any _ _ _ _ _ _ _ _ _ _ _ (by omega) (by omega) (by omega) (by omega)).mono ?_; rintro e w1 ⟨rfl, rfl⟩) | fail)
    refine (toCalendar_any _ _ _ _ _ _ _ _ _ _ (HA.out.call (by go_grown)) (HR.out.call (by go_grown)) hn hm).mono ?_
    rintro e w1 ⟨g, g', rfl, _, _, _, i1, i2, hb1⟩
    have HB1 : Hid (Below w.heap.size w w1) := bel_of (by go_grown) (by simp; omega) hb1
    have HC1 : Hid (Cal5 w1 w.heap.size f t d A us.length ca R vs.length cr) := Cal5.below (B := _) ⟨by go_simp, by go_simp, by go_simp, by go_simp, by go_simp⟩ hb1 (by simp; omega)
    have hs1 : w.heap.size < w1.heap.size := by have := hb1.size; simp at this; omega
    have I1 := Lib.hid i1
    have I2 := Lib.hid i2
    clear i1 i2 hb1
    go_wp2_with fail
    refine (specCountDays_any _ _ _ _ _ _ _ _ _  _ I1.out I2.out hn hm).mono ?_
    rintro e w2 ⟨rfl, hb2⟩
    have HB2 : Hid (Below w.heap.size w w2) := bel_of HB1.out (by omega) hb2
    have hs2 : w.heap.size < w2.heap.size := by have := hb2.size; omega
    have HC2 := Lib.hid (HC1.out.below hb2 hs1)
    clear I1 I2 hb2 HC1 HB1 hs1
    obtain ⟨c0, c1, c2, c3, c4⟩ := HC2.out
    go_wp2_with fail
    refine (toCalendar_any _ _ _ _ _ _ _ _ _ _ (HA.out.call HB2.out) (HR.out.call HB2.out) hn hm).mono ?_
    rintro e w3 ⟨h, h', rfl, _, _, _, j1, j2, hb3⟩
    have HB3 : Hid (Below w.heap.size w w3) := bel_of HB2.out (by omega) hb3
    have hs3 : w.heap.size < w3.heap.size := by have := hb3.size; omega
    have HC3 := Lib.hid (HC2.out.below hb3 hs2)
    have J1 := Lib.hid j1
    have J2 := Lib.hid j2
    clear j1 j2 hb3 HC2 HB2 hs2 c0 c1 c2 c3 c4
    go_wp2_with fail
    refine (implCountDays_any _ _ _ _ _ _ _ _ _  _ (J1.out.alloc _) (J2.out.alloc _) hn hm).mono ?_
    rintro e w4 ⟨rfl, hb4⟩
    have HB4 : Hid (Below w.heap.size w w4) := bel_of (HB3.out.alloc (by omega) _) (by simp; omega) hb4
    have hs4 : w.heap.size < w4.heap.size := by have := hb4.size; simp at this; omega
    have ht4 : w3.heap.size < w4.heap.size := by have := hb4.size; simp at this; omega
    have HC4 : Hid (Cal5 w4 w.heap.size f t d A us.length ca R vs.length cr) := (HC3.out.below ((Below.refl _ _).alloc (Nat.le_refl _) _) hs3).below hb4 (by simp; omega)
    have HD4 : Hid (Cal5 w4 w3.heap.size f t d (some ⟨h, 0, none⟩) us.length us.length (some ⟨h', 0, none⟩) vs.length vs.length) := Cal5.below ⟨by go_simp, by go_simp, by go_simp, by go_simp, by go_simp⟩ hb4 (by simp)
    have K1 := Lib.hid ((J1.out.alloc _).call hb4)
    have K2 := Lib.hid ((J2.out.alloc _).call hb4)
    clear J1 J2 hb4 HC3 HB3
    go_wp2_with fail
    have hC : ∀ w', Below w4.heap.size w4 w' → Cal5 w' w.heap.size f t d A us.length ca R vs.length cr := fun w' hb => HC4.out.below hb hs4
    have hD : ∀ w', Below w4.heap.size w4 w' → Cal5 w' w3.heap.size f t d (some ⟨h, 0, none⟩) us.length us.length (some ⟨h', 0, none⟩) vs.length vs.length := fun w' hb => HD4.out.below hb ht4
    unfold Cal5 at hC hD
    go_region_held3 (fun w' => Below w4.heap.size w4 w') (repeat' first | assumption | exact Nat.le_refl _ | exact Below.refl _ _ | (refine bel_drew ?_) | (refine bel_alloc ?_ _) | (refine bel_set ?_ ?_ _))
      (first
        | (go_at_call 15; refine (toCalendar_any _ _ _ _ _ _ _ _ _ _ (HA.out.call (HB4.out.trans ((‹Below w4.heap.size w4 _› : Below w4.heap.size w4 _).mono HB4.out.size))) (HR.out.call (HB4.out.trans ((‹Below w4.heap.size w4 _› : Below w4.heap.size w4 _).mono HB4.out.size))) hn hm).mono ?_; rintro e w5 ⟨g5, g6, rfl, _, _, _, m1, m2, hb5⟩; have hB5 := bel_call ‹Below w4.heap.size w4 _› hb5; have M1 := Lib.hid m1; have M2 := Lib.hid m2; clear m1 m2 hb5)
        | (go_at_call 17; refine (eqCalendar_same _ _ _ _ _ _ _ _ _ _ _ _ _ _ (K1.out.call ‹Below w4.heap.size w4 _›) (K2.out.call ‹Below w4.heap.size w4 _›) M1.out M2.out hn hm).mono ?_; rintro e w6 ⟨rfl, hb6⟩; have hB6 := bel_call ‹Below w4.heap.size w4 w5› hb6; clear hb6))
    all_goals
      clear hC hD
      go_wp2_with fail
      go_ret
      exact ⟨rfl, bel_of HB4.out (by omega) hB6⟩
end Go.Proofs.Ythhlgaonlpppfaa
