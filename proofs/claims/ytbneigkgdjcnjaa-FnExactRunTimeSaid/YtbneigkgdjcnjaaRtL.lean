/- The walk of the law of RunTime. -/
import Derived.Test.YtbneigkgdjcnjaaRts
namespace Go.Proofs.Ytbneigkgdjcnjaa
open Go.ChangeShapes Go.WideShapes Go.ChangeAt Go.RowKit Go.PlainAid
set_option linter.unusedVariables false

set_option maxRecDepth 100000 in
set_option maxHeartbeats 2000000 in
theorem fnRunTime_walk (v : Value) (x : NetD) (line : Int) (wline : (Lit.int .i64 line).wf = true) (p : Int) (wp : (Lit.int .i64 p).wf = true) (q : Int) (wq : (Lit.int .i64 q).wf = true) (w : World) (hx : LNet w v x) :
    Calls Try.prog 5 #[v, .int .i64 line, .int .i64 p, .int .i64 q] w fun e w' => e = .returned (.bool true) ∧ Below w.heap.size w w' := by
  obtain ⟨A, ca, L, cl, rfl, hA, hL, hl1, hl2, hl3, hl4⟩ := hx
  have HA := Lib.hid hA
  have HL := Lib.hid hL
  clear hA hL
  have hle := szI_le (a := szNet x) (left := 1048576) (by omega)
  by_cases hz : szI (szNet x) 1048576 < 0
  · go_enter Try.func5, Try.ntmps5
    go_wp2_with fail
    refine (szNetwork_any x _ _ _ _ _ _ (HA.out.call (by go_grown)) (HL.out.call (by go_grown)) (by omega) (by omega) hl1 hl2 hl3 hl4).mono ?_
    rintro e w1 ⟨rfl, hb1⟩
    have HB1 : Hid (Below w.heap.size w w1) := bel_of (by go_grown) (by simp) hb1
    clear hb1
    go_wp2_with fail
    go_ret
    exact ⟨rfl, HB1.out⟩
  · have hf := fits_of hz
    go_enter Try.func5, Try.ntmps5
    go_wp2_with fail
    refine (szNetwork_any x _ _ _ _ _ _ (HA.out.call (by go_grown)) (HL.out.call (by go_grown)) (by omega) (by omega) hl1 hl2 hl3 hl4).mono ?_
    rintro e w0 ⟨rfl, hb0⟩
    have HB0 : Hid (Below w.heap.size w w0) := bel_of (by go_grown) (by simp) hb0
    have HC0 : Hid (Net2 w0 w.heap.size x A ca L cl) := Net2.below (B := _) ⟨by go_simp, by go_simp⟩ hb0 (by simp)
    have hs0 : w.heap.size < w0.heap.size := by have := hb0.size; simp at this; omega
    obtain ⟨c0, c1⟩ := HC0.out
    clear hb0 hl1 hl2 hl3 hl4
    go_wp2_with fail
    refine (toNetwork_new x _ _ _ _ _ (HA.out.call HB0.out) (HL.out.call HB0.out) hf).mono ?_
    rintro e w1 ⟨g, g', rfl, _, _, _, i1, i2, hb1⟩
    have HB1 : Hid (Below w.heap.size w w1) := bel_of HB0.out (by omega) hb1
    have HC1 : Hid (Net2 w1 w.heap.size x A ca L cl) := HC0.out.below hb1 hs0
    have hs1 : w.heap.size < w1.heap.size := by have := hb1.size; omega
    have I1 := Lib.hid (i1.to_below (Nat.le_refl _))
    have I2 := Lib.hid (i2.to_below (Nat.le_refl _))
    clear i1 i2 hb1 HC0 HB0 hs0 c0 c1
    go_wp2_with fail
    refine (specRunTime_any x _ _ _ _ _ _ _ _ I1.out I2.out hf).mono ?_
    rintro e w2 ⟨rfl, hb2⟩
    have HB2 : Hid (Below w.heap.size w w2) := bel_of HB1.out (by omega) hb2
    have hs2 : w.heap.size < w2.heap.size := by have := hb2.size; omega
    have HC2 := Lib.hid (HC1.out.below hb2 hs1)
    clear I1 I2 hb2 HC1 HB1 hs1
    obtain ⟨c0, c1⟩ := HC2.out
    go_wp2_with fail
    refine (toNetwork_new x _ _ _ _ _ (HA.out.call HB2.out) (HL.out.call HB2.out) hf).mono ?_
    rintro e w3 ⟨h, h', rfl, _, _, _, j1, j2, hb3⟩
    have HB3 : Hid (Below w.heap.size w w3) := bel_of HB2.out (by omega) hb3
    have hs3 : w.heap.size < w3.heap.size := by have := hb3.size; omega
    have HC3 := Lib.hid (HC2.out.below hb3 hs2)
    have J1 := Lib.hid (j1.to_below (Nat.le_refl _))
    have J2 := Lib.hid (j2.to_below (Nat.le_refl _))
    clear j1 j2 hb3 HC2 HB2 hs2 c0 c1
    go_wp2_with fail
    refine (implRunTime_any x _ _ _ _ _ _ _ _ (J1.out.call (by go_grown)) (J2.out.call (by go_grown)) hf).mono ?_
    rintro e w4 ⟨rfl, hb4⟩
    have HB4 : Hid (Below w.heap.size w w4) := bel_of (HB3.out.alloc (by omega) _) (by simp; omega) hb4
    have hs4 : w.heap.size < w4.heap.size := by have := hb4.size; simp at this; omega
    have ht4 : w3.heap.size < w4.heap.size := by have := hb4.size; simp at this; omega
    have HC4 : Hid (Net2 w4 w.heap.size x A ca L cl) := (HC3.out.below ((Below.refl _ _).alloc (Nat.le_refl _) _) hs3).below hb4 (by simp; omega)
    have HD4 : Hid (Net2 w4 w3.heap.size x (some ⟨h, 0, none⟩) x.stops.length (some ⟨h', 0, none⟩) x.lines.length) := Net2.below ⟨by go_simp, by go_simp⟩ hb4 (by simp)
    have K1 := Lib.hid ((J1.out.call (by go_grown)).call hb4)
    have K2 := Lib.hid ((J2.out.call (by go_grown)).call hb4)
    clear J1 J2 hb4 HC3 HB3
    go_wp2_with fail
    have hC : ∀ w', Below w4.heap.size w4 w' → Net2 w' w.heap.size x A ca L cl := fun w' hb => HC4.out.below hb hs4
    have hD : ∀ w', Below w4.heap.size w4 w' → Net2 w' w3.heap.size x (some ⟨h, 0, none⟩) x.stops.length (some ⟨h', 0, none⟩) x.lines.length := fun w' hb => HD4.out.below hb ht4
    unfold Net2 at hC hD
    go_region_held3 (fun w' => Below w4.heap.size w4 w') (repeat' first | assumption | exact Nat.le_refl _ | exact Below.refl _ _ | (refine bel_drew ?_) | (refine bel_alloc ?_ _) | (refine bel_set ?_ ?_ _))
      (first
        | (go_at_call 17; refine (toNetwork_new x _ _ _ _ _ (HA.out.call (HB4.out.trans ((‹Below w4.heap.size w4 _› : Below w4.heap.size w4 _).mono HB4.out.size))) (HL.out.call (HB4.out.trans ((‹Below w4.heap.size w4 _› : Below w4.heap.size w4 _).mono HB4.out.size))) hf).mono ?_; rintro e w5 ⟨g5, g6, rfl, _, _, _, m1, m2, hb5⟩; have hB5 := bel_call ‹Below w4.heap.size w4 _› hb5; have M1 := Lib.hid (m1.to_below (Nat.le_refl _)); have M2 := Lib.hid (m2.to_below (Nat.le_refl _)); clear m1 m2 hb5)
        | (go_at_call 19; refine (eqNetwork_same x _ _ _ _ _ _ _ _ _ (K1.out.call ‹Below w4.heap.size w4 _›) (K2.out.call ‹Below w4.heap.size w4 _›) M1.out M2.out hf).mono ?_; rintro e w6 ⟨rfl, hb6⟩; have hB6 := bel_call ‹Below w4.heap.size w4 w5› hb6; clear hb6))
    all_goals
      clear hC hD
      go_wp2_with fail
      go_ret
      exact ⟨rfl, bel_of HB4.out (by omega) hB6⟩
end Go.Proofs.Ytbneigkgdjcnjaa
