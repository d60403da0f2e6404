/- The walk of the law of AddTrip. -/
import Derived.Test.YtambgommeannnaaAdu
namespace Go.Proofs.Ytambgommeannnaa
open Go.ChangeShapes Go.WideShapes Go.ChangeAt Go.RowKit Go.PlainAid
set_option linter.unusedVariables false
set_option linter.unusedSimpArgs false

set_option maxRecDepth 100000 in
set_option maxHeartbeats 4000000 in
theorem fnAddTrip_walk (vx : Value) (x : TTD) (ya yb yc : Int) (w : World) (hx : LTt w vx x) :
    Calls Try.prog 13 #[vx, .agg #[.int .i64 ya, .int .i64 yb, .int .i64 yc]] w fun e w' => e = .returned (.bool true) ∧ Below w.heap.size w w' := by
  obtain ⟨xA, xca, xL, xcl, xT, xct, rfl, xh1, xh2, xh3, xl1, xl2, xl3, xl4, xl5⟩ := hx
  have hb0 : Below w.heap.size w ((w.alloc (.cells #[.slice xA x.net.stops.length xca, .slice xL x.net.lines.length xcl, .slice xT x.trips.length xct] 39)).alloc (.cells #[.int .i64 ya, .int .i64 yb, .int .i64 yc] 92)) := by go_grown
  have xHh1 := Lib.hid ((xh1.call hb0).mono (Zone.below_le (Nat.le_refl ((w.alloc (.cells #[.slice xA x.net.stops.length xca, .slice xL x.net.lines.length xcl, .slice xT x.trips.length xct] 39)).alloc (.cells #[.int .i64 ya, .int .i64 yb, .int .i64 yc] 92)).heap.size)))
  have xHh2 := Lib.hid ((xh2.call hb0).mono (Zone.below_le (Nat.le_refl ((w.alloc (.cells #[.slice xA x.net.stops.length xca, .slice xL x.net.lines.length xcl, .slice xT x.trips.length xct] 39)).alloc (.cells #[.int .i64 ya, .int .i64 yb, .int .i64 yc] 92)).heap.size)))
  have xHh3 := Lib.hid ((xh3.call hb0).mono (Zone.below_le (Nat.le_refl ((w.alloc (.cells #[.slice xA x.net.stops.length xca, .slice xL x.net.lines.length xcl, .slice xT x.trips.length xct] 39)).alloc (.cells #[.int .i64 ya, .int .i64 yb, .int .i64 yc] 92)).heap.size)))
  clear xh1 xh2 xh3
  have xHC : Hid (Tt3 ((w.alloc (.cells #[.slice xA x.net.stops.length xca, .slice xL x.net.lines.length xcl, .slice xT x.trips.length xct] 39)).alloc (.cells #[.int .i64 ya, .int .i64 yb, .int .i64 yc] 92)) w.heap.size x xA xca xL xcl xT xct) := Lib.hid (by refine ⟨?_, ?_, ?_⟩ <;> go_simp)
  have xlt : w.heap.size < ((w.alloc (.cells #[.slice xA x.net.stops.length xca, .slice xL x.net.lines.length xcl, .slice xT x.trips.length xct] 39)).alloc (.cells #[.int .i64 ya, .int .i64 yb, .int .i64 yc] 92)).heap.size := by (simp; omega)
  have yHC : Hid (((w.alloc (.cells #[.slice xA x.net.stops.length xca, .slice xL x.net.lines.length xcl, .slice xT x.trips.length xct] 39)).alloc (.cells #[.int .i64 ya, .int .i64 yb, .int .i64 yc] 92)).cell? ⟨(w.heap.size + 1), 0, none⟩ = some (.int .i64 ya) ∧ ((w.alloc (.cells #[.slice xA x.net.stops.length xca, .slice xL x.net.lines.length xcl, .slice xT x.trips.length xct] 39)).alloc (.cells #[.int .i64 ya, .int .i64 yb, .int .i64 yc] 92)).cell? ⟨(w.heap.size + 1), 1, none⟩ = some (.int .i64 yb) ∧ ((w.alloc (.cells #[.slice xA x.net.stops.length xca, .slice xL x.net.lines.length xcl, .slice xT x.trips.length xct] 39)).alloc (.cells #[.int .i64 ya, .int .i64 yb, .int .i64 yc] 92)).cell? ⟨(w.heap.size + 1), 2, none⟩ = some (.int .i64 yc)) := Lib.hid (by refine ⟨?_, ?_, ?_⟩ <;> go_simp)
  have ylt : (w.heap.size + 1) < ((w.alloc (.cells #[.slice xA x.net.stops.length xca, .slice xL x.net.lines.length xcl, .slice xT x.trips.length xct] 39)).alloc (.cells #[.int .i64 ya, .int .i64 yb, .int .i64 yc] 92)).heap.size := by simp
  have HB := Lib.hid hb0
  have hw0 : w.heap.size ≤ ((w.alloc (.cells #[.slice xA x.net.stops.length xca, .slice xL x.net.lines.length xcl, .slice xT x.trips.length xct] 39)).alloc (.cells #[.int .i64 ya, .int .i64 yb, .int .i64 yc] 92)).heap.size := hb0.size
  clear hb0
  by_cases xhz : szI (szTT x) 1048576 < 0
  · skip
    go_enter Try.func13, Try.ntmps13
    go_wp2_with fail
    generalize ((w.alloc (.cells #[.slice xA x.net.stops.length xca, .slice xL x.net.lines.length xcl, .slice xT x.trips.length xct] 39)).alloc (.cells #[.int .i64 ya, .int .i64 yb, .int .i64 yc] 92)) = w0 at *
    obtain ⟨cb0_0, cb0_1, cb0_2⟩ := xHC.out
    have cl0 : w.heap.size < w0.heap.size := by omega
    go_wp2_with fail
    refine (szTimetable_any x _ _ _ _ _ _ _ _ (xHh1.out.mono (Zone.below_le (by omega))) (xHh2.out.mono (Zone.below_le (by omega))) (by omega) (by omega) xl1 xl2 xl3 xl4 xl5).mono ?_
    rintro e w1 ⟨rfl, hb⟩
    have hs0 := hb.size
    have hq : Below w0.heap.size w0 w1 := hb.mono (by omega)
    replace HB := Lib.hid (HB.out.trans (hq.mono hw0))
    replace xHh1 := Lib.hid (xHh1.out.at_below hq)
    replace xHh2 := Lib.hid (xHh2.out.at_below hq)
    replace xHh3 := Lib.hid (xHh3.out.at_below hq)
    replace xHC := Lib.hid (xHC.out.below hq xlt)
    replace yHC : Hid (w1.cell? ⟨(w.heap.size + 1), 0, none⟩ = some (.int .i64 ya) ∧ w1.cell? ⟨(w.heap.size + 1), 1, none⟩ = some (.int .i64 yb) ∧ w1.cell? ⟨(w.heap.size + 1), 2, none⟩ = some (.int .i64 yc)) := Lib.hid ⟨(hq.cell (p := ⟨_, 0, none⟩) ylt).trans yHC.out.1, (hq.cell (p := ⟨_, 1, none⟩) ylt).trans yHC.out.2.1, (hq.cell (p := ⟨_, 2, none⟩) ylt).trans yHC.out.2.2⟩
    clear hq
    clear hb
    clear cb0_0 cb0_1 cb0_2
    clear cl0
    go_wp2_with fail
    go_ret
    exact ⟨rfl, HB.out⟩
  have xhn := szNet_le xhz (by omega)
  have xf := fitsT_le xhn
  have xle : szI (szTT x) 1048576 ≤ 1048576 := szI_le (by omega)
  have rn : szTT (adR x ⟨ya, yb, yc⟩).1 ≤ 1048576 := adR_sz x ⟨ya, yb, yc⟩
  have rf : FitsT (adR x ⟨ya, yb, yc⟩).1 := fitsT_le rn
  go_enter Try.func13, Try.ntmps13
  go_wp2_with fail
  generalize ((w.alloc (.cells #[.slice xA x.net.stops.length xca, .slice xL x.net.lines.length xcl, .slice xT x.trips.length xct] 39)).alloc (.cells #[.int .i64 ya, .int .i64 yb, .int .i64 yc] 92)) = w0 at *
  obtain ⟨cb0_0, cb0_1, cb0_2⟩ := xHC.out
  have cl0 : w.heap.size < w0.heap.size := by omega
  go_wp2_with fail
  refine (szTimetable_any x _ _ _ _ _ _ _ _ (xHh1.out.mono (Zone.below_le (by omega))) (xHh2.out.mono (Zone.below_le (by omega))) (by omega) (by omega) xl1 xl2 xl3 xl4 xl5).mono ?_
  rintro e w1 ⟨rfl, hb⟩
  have hs0 := hb.size
  have hq : Below w0.heap.size w0 w1 := hb.mono (by omega)
  replace HB := Lib.hid (HB.out.trans (hq.mono hw0))
  replace xHh1 := Lib.hid (xHh1.out.at_below hq)
  replace xHh2 := Lib.hid (xHh2.out.at_below hq)
  replace xHh3 := Lib.hid (xHh3.out.at_below hq)
  replace xHC := Lib.hid (xHC.out.below hq xlt)
  replace yHC : Hid (w1.cell? ⟨(w.heap.size + 1), 0, none⟩ = some (.int .i64 ya) ∧ w1.cell? ⟨(w.heap.size + 1), 1, none⟩ = some (.int .i64 yb) ∧ w1.cell? ⟨(w.heap.size + 1), 2, none⟩ = some (.int .i64 yc)) := Lib.hid ⟨(hq.cell (p := ⟨_, 0, none⟩) ylt).trans yHC.out.1, (hq.cell (p := ⟨_, 1, none⟩) ylt).trans yHC.out.2.1, (hq.cell (p := ⟨_, 2, none⟩) ylt).trans yHC.out.2.2⟩
  clear hq
  clear hb
  clear cb0_0 cb0_1 cb0_2
  clear cl0
  clear xl1 xl2 xl3 xl4 xl5
  go_upto_region 5 with fail
  have hV : ∀ w', Below w1.heap.size w1 w' → (w'.cell? ⟨(w.heap.size + 1), 0, none⟩ = some (.int .i64 ya) ∧ w'.cell? ⟨(w.heap.size + 1), 1, none⟩ = some (.int .i64 yb) ∧ w'.cell? ⟨(w.heap.size + 1), 2, none⟩ = some (.int .i64 yc)) := fun w' hb => (have hq := hb.mono (by omega : w0.heap.size ≤ w1.heap.size); ⟨(hq.cell (p := ⟨_, 0, none⟩) ylt).trans yHC.out.1, (hq.cell (p := ⟨_, 1, none⟩) ylt).trans yHC.out.2.1, (hq.cell (p := ⟨_, 2, none⟩) ylt).trans yHC.out.2.2⟩)
  have hC : ∀ w', Below w1.heap.size w1 w' → Tt3 w' w.heap.size x xA xca xL xcl xT xct := fun w' hb => xHC.out.below (hb.mono (by omega)) xlt
  unfold Tt3 at hC
  go_cut [6, 7] (fun s1 s2 wx => ∃ g A ca L cl T ct, s1 = .pointer (some ⟨g, 0, none⟩) ∧ s2 = .bool ((adR x ⟨ya, yb, yc⟩).2) ∧ TtHeld w1 wx (adR x ⟨ya, yb, yc⟩).1 g A ca L cl T ct)
  case first =>
    go_region_held3 (fun w' => Below w1.heap.size w1 w') (repeat' first | assumption | exact Nat.le_refl _ | exact Below.refl _ _ | (refine bel_drew ?_) | (refine bel_alloc ?_ _) | (refine bel_set ?_ ?_ _))
      (first
        | (go_at_call 25; (with_reducible refine (toTimetable_new x _ _ _ _ _ _ _ ((xHh1.out.mono (Zone.below_le (by omega))).call ‹Below w1.heap.size w1 _›) ((xHh2.out.mono (Zone.below_le (by omega))).call ‹Below w1.heap.size w1 _›) ((xHh3.out.mono (Zone.below_le (by omega))).call ‹Below w1.heap.size w1 _›) xf).mono ?_); rintro e wp ⟨sg, sh, sk, rfl, si1, si2, si3, hb5⟩; have hB5 := bel_call ‹Below w1.heap.size w1 _› hb5; (try have zA := zeroNew (Nat.le_refl w1.heap.size) hb5); have sHi1 := Lib.hid (si1.to_below (Nat.le_refl _)); have sHi2 := Lib.hid (si2.to_below (Nat.le_refl _)); have sHi3 := Lib.hid (si3.to_below (Nat.le_refl _)); clear si1 si2 si3 hb5)
        | (go_at_call 64; refine (toTrip_any ya yb yc _).mono ?_; rintro e wp2 ⟨rfl, hb7⟩; have hB7 := bel_call ‹Below w1.heap.size w1 _› hb7; (try have zB := zeroNew (Nat.le_refl w1.heap.size) hb7); (try have zB := zeroNew2 hB5.size hb7); (try have zB := ZeroAt.call zA hb7); (try have sNi1 := Lib.hid (sHi1.out.call hb7)); (try have sNi1 := Lib.hid ((sHi1.out.call ((Below.refl _ _).alloc (Nat.le_refl _) _)).call hb7)); (try have sNi2 := Lib.hid (sHi2.out.call hb7)); (try have sNi2 := Lib.hid ((sHi2.out.call ((Below.refl _ _).alloc (Nat.le_refl _) _)).call hb7)); (try have sNi3 := Lib.hid (sHi3.out.call hb7)); (try have sNi3 := Lib.hid ((sHi3.out.call ((Below.refl _ _).alloc (Nat.le_refl _) _)).call hb7)); clear hb7)
        | (go_at_call 63; refine (specAddTrip_any x ⟨ya, yb, yc⟩ _ _ _ _ _ _ _ _ _ _ (by first | exact sNi1.out | exact sNi1.out.call ((Below.refl _ _).alloc (Nat.le_refl _) _) | exact sHi1.out) (by first | exact sNi2.out | exact sNi2.out.call ((Below.refl _ _).alloc (Nat.le_refl _) _) | exact sHi2.out) (by first | exact sNi3.out | exact sNi3.out.call ((Below.refl _ _).alloc (Nat.le_refl _) _) | exact sHi3.out) xf (Nat.le_refl _)).mono ?_; rintro e wz ⟨wA, wca, wL, wcl, wT, wct, rfl, wi, hb6⟩; have hlo := (‹Below w1.heap.size w1 _› : Below w1.heap.size w1 _).size; have hbz := bel_call ‹Below w1.heap.size w1 _› hb6; have hbs := hbz.size; have hlz := hb6.size; (try have zC := zeroNew3 hB7.size hb6); (try have zC := zeroCall3 zB hb6); (try have z0 := zC.1.c0); (try have z1 := zC.1.c1); (try have z2 := zC.1.c2); (try have zf0 := zC.1.fr 0); (try have zf1 := zC.1.fr 1); (try have zf2 := zC.1.fr 2); (try have zl := zC.1.lt); (try have zg := zC.1.ge); clear hb6))
    all_goals
      clear hV hC
      go_wp2_with fail
      go_meet
      first | exact ⟨_, _, _, _, _, _, _, rfl, rfl, TtHeld.laid hbz wi hlo hlz⟩ | exact ⟨_, _, _, _, _, _, _, rfl, rfl, TtHeld.stored zC.1 hbz wi hlo hlz zC.2⟩
  case rest =>
    obtain ⟨wg, wA, wca, wL, wcl, wT, wct, rfl, rfl, hh⟩ := hcut
    obtain ⟨hb, wb, ⟨wlo, whi, wo, wlo1, wlh, whi1, wd⟩, wg0, wg1⟩ := hh
    clear hV hC
    generalize wc = w2 at *
    have wH := Lib.hid wo
    have wB := Lib.hid wb
    clear wo wb
    have hs1 := hb.size
    have hq : Below w0.heap.size w1 w2 := hb.mono (by omega)
    replace HB := Lib.hid (HB.out.trans (hq.mono hw0))
    replace xHh1 := Lib.hid (xHh1.out.at_below hq)
    replace xHh2 := Lib.hid (xHh2.out.at_below hq)
    replace xHh3 := Lib.hid (xHh3.out.at_below hq)
    replace xHC := Lib.hid (xHC.out.below hq xlt)
    replace yHC : Hid (w2.cell? ⟨(w.heap.size + 1), 0, none⟩ = some (.int .i64 ya) ∧ w2.cell? ⟨(w.heap.size + 1), 1, none⟩ = some (.int .i64 yb) ∧ w2.cell? ⟨(w.heap.size + 1), 2, none⟩ = some (.int .i64 yc)) := Lib.hid ⟨(hq.cell (p := ⟨_, 0, none⟩) ylt).trans yHC.out.1, (hq.cell (p := ⟨_, 1, none⟩) ylt).trans yHC.out.2.1, (hq.cell (p := ⟨_, 2, none⟩) ylt).trans yHC.out.2.2⟩
    clear hq
    clear hb
    obtain ⟨cb0_0, cb0_1, cb0_2⟩ := xHC.out
    have cl0 : w.heap.size < w2.heap.size := by omega
    clear cb0_0 cb0_1 cb0_2
    clear cl0
    obtain ⟨cb0_0, cb0_1, cb0_2⟩ := xHC.out
    have cl0 : w.heap.size < w2.heap.size := by omega
    go_wp2_with fail
    refine (toTimetable_new x _ _ _ _ _ _ _ (xHh1.out.mono (Zone.below_le (by omega))) (xHh2.out.mono (Zone.below_le (by omega))) (xHh3.out.mono (Zone.below_le (by omega))) xf).mono ?_
    rintro e w3 ⟨xg, xh, xk, rfl, xi1, xi2, xi3, hb⟩
    have hs2 := hb.size
    have hq : Below w0.heap.size w2 w3 := hb.mono (by omega)
    replace HB := Lib.hid (HB.out.trans (hq.mono hw0))
    replace xHh1 := Lib.hid (xHh1.out.at_below hq)
    replace xHh2 := Lib.hid (xHh2.out.at_below hq)
    replace xHh3 := Lib.hid (xHh3.out.at_below hq)
    replace xHC := Lib.hid (xHC.out.below hq xlt)
    replace yHC : Hid (w3.cell? ⟨(w.heap.size + 1), 0, none⟩ = some (.int .i64 ya) ∧ w3.cell? ⟨(w.heap.size + 1), 1, none⟩ = some (.int .i64 yb) ∧ w3.cell? ⟨(w.heap.size + 1), 2, none⟩ = some (.int .i64 yc)) := Lib.hid ⟨(hq.cell (p := ⟨_, 0, none⟩) ylt).trans yHC.out.1, (hq.cell (p := ⟨_, 1, none⟩) ylt).trans yHC.out.2.1, (hq.cell (p := ⟨_, 2, none⟩) ylt).trans yHC.out.2.2⟩
    replace wH := Lib.hid (wH.out.new_call hb (by omega))
    replace wB := Lib.hid (wB.out.below hb (by omega))
    clear hq
    clear hb
    clear cb0_0 cb0_1 cb0_2
    clear cl0
    have xHi1 := Lib.hid xi1
    clear xi1
    have xHi2 := Lib.hid xi2
    clear xi2
    have xHi3 := Lib.hid xi3
    clear xi3
    go_wp2_with fail
    have hb : Below w3.heap.size w3 (w3.alloc (.cells #[.slice (some ⟨xg, 0, none⟩) x.net.stops.length x.net.stops.length, .slice (some ⟨xh, 0, none⟩) x.net.lines.length x.net.lines.length, .slice (some ⟨xk, 0, none⟩) x.trips.length x.trips.length] 49)) := by go_grown
    have xB : Hid (Tt3 (w3.alloc (.cells #[.slice (some ⟨xg, 0, none⟩) x.net.stops.length x.net.stops.length, .slice (some ⟨xh, 0, none⟩) x.net.lines.length x.net.lines.length, .slice (some ⟨xk, 0, none⟩) x.trips.length x.trips.length] 49)) w3.heap.size x (some ⟨xg, 0, none⟩) x.net.stops.length (some ⟨xh, 0, none⟩) x.net.lines.length (some ⟨xk, 0, none⟩) x.trips.length) := Lib.hid (by refine ⟨?_, ?_, ?_⟩ <;> go_simp)
    have xBlt : w3.heap.size < (w3.alloc (.cells #[.slice (some ⟨xg, 0, none⟩) x.net.stops.length x.net.stops.length, .slice (some ⟨xh, 0, none⟩) x.net.lines.length x.net.lines.length, .slice (some ⟨xk, 0, none⟩) x.trips.length x.trips.length] 49)).heap.size := by simp
    generalize (w3.alloc (.cells #[.slice (some ⟨xg, 0, none⟩) x.net.stops.length x.net.stops.length, .slice (some ⟨xh, 0, none⟩) x.net.lines.length x.net.lines.length, .slice (some ⟨xk, 0, none⟩) x.trips.length x.trips.length] 49)) = w4 at *
    have hs3 := hb.size
    have hq : Below w0.heap.size w3 w4 := hb.mono (by omega)
    replace HB := Lib.hid (HB.out.trans (hq.mono hw0))
    replace xHh1 := Lib.hid (xHh1.out.at_below hq)
    replace xHh2 := Lib.hid (xHh2.out.at_below hq)
    replace xHh3 := Lib.hid (xHh3.out.at_below hq)
    replace xHC := Lib.hid (xHC.out.below hq xlt)
    replace yHC : Hid (w4.cell? ⟨(w.heap.size + 1), 0, none⟩ = some (.int .i64 ya) ∧ w4.cell? ⟨(w.heap.size + 1), 1, none⟩ = some (.int .i64 yb) ∧ w4.cell? ⟨(w.heap.size + 1), 2, none⟩ = some (.int .i64 yc)) := Lib.hid ⟨(hq.cell (p := ⟨_, 0, none⟩) ylt).trans yHC.out.1, (hq.cell (p := ⟨_, 1, none⟩) ylt).trans yHC.out.2.1, (hq.cell (p := ⟨_, 2, none⟩) ylt).trans yHC.out.2.2⟩
    replace wH := Lib.hid (wH.out.new_call hb (by omega))
    replace wB := Lib.hid (wB.out.below hb (by omega))
    replace xHi1 := Lib.hid (xHi1.out.new_call hb (by omega))
    replace xHi2 := Lib.hid (xHi2.out.new_call hb (by omega))
    replace xHi3 := Lib.hid (xHi3.out.new_call hb (by omega))
    clear hq
    clear hb
    go_upto_region 7 with fail
    have hV : ∀ w', Below w4.heap.size w4 w' → (w'.cell? ⟨(w.heap.size + 1), 0, none⟩ = some (.int .i64 ya) ∧ w'.cell? ⟨(w.heap.size + 1), 1, none⟩ = some (.int .i64 yb) ∧ w'.cell? ⟨(w.heap.size + 1), 2, none⟩ = some (.int .i64 yc)) := fun w' hb => (have hq := hb.mono (by omega : w0.heap.size ≤ w4.heap.size); ⟨(hq.cell (p := ⟨_, 0, none⟩) ylt).trans yHC.out.1, (hq.cell (p := ⟨_, 1, none⟩) ylt).trans yHC.out.2.1, (hq.cell (p := ⟨_, 2, none⟩) ylt).trans yHC.out.2.2⟩)
    have hC : ∀ w', Below w4.heap.size w4 w' → Tt3 w' w3.heap.size x (some ⟨xg, 0, none⟩) x.net.stops.length (some ⟨xh, 0, none⟩) x.net.lines.length (some ⟨xk, 0, none⟩) x.trips.length := fun w' hb => xB.out.below hb (by omega)
    unfold Tt3 at hC
    go_cut [9, 10] (fun s1 s2 wx => ∃ g A ca L cl T ct, s1 = .pointer (some ⟨g, 0, none⟩) ∧ s2 = .bool ((adR x ⟨ya, yb, yc⟩).2) ∧ TtHeld w4 wx (adR x ⟨ya, yb, yc⟩).1 g A ca L cl T ct)
    case first =>
      go_region_held3 (fun w' => Below w4.heap.size w4 w') (repeat' first | assumption | exact Nat.le_refl _ | exact Below.refl _ _ | (refine bel_drew ?_) | (refine bel_alloc ?_ _) | (refine bel_set ?_ ?_ _))
        (first
          | (go_at_call 64; refine (toTrip_any ya yb yc _).mono ?_; rintro e wp2 ⟨rfl, hb7⟩; have hB7 := bel_call ‹Below w4.heap.size w4 _› hb7; (try have zB := zeroNew (Nat.le_refl w4.heap.size) hb7); (try have zB := zeroNew2 hB5.size hb7); (try have zB := ZeroAt.call zA hb7); clear hb7)
          | (go_at_call 65; refine (implAddTrip_any x ⟨ya, yb, yc⟩ _ _ _ _ _ _ _ _ _ _ ((xHi1.out.to_below (by omega)).call ‹Below w4.heap.size w4 _›) ((xHi2.out.to_below (by omega)).call ‹Below w4.heap.size w4 _›) ((xHi3.out.to_below (by omega)).call ‹Below w4.heap.size w4 _›) xf).mono ?_; rintro e wz ⟨gA, gca, gL, gcl, gT, gct, rfl, gi, hb6⟩; have hlo := (‹Below w4.heap.size w4 _› : Below w4.heap.size w4 _).size; have hbz := bel_call ‹Below w4.heap.size w4 _› hb6; have hbs := hbz.size; have hlz := hb6.size; (try have zC := zeroNew3 hB7.size hb6); (try have zC := zeroCall3 zB hb6); (try have z0 := zC.1.c0); (try have z1 := zC.1.c1); (try have z2 := zC.1.c2); (try have zf0 := zC.1.fr 0); (try have zf1 := zC.1.fr 1); (try have zf2 := zC.1.fr 2); (try have zl := zC.1.lt); (try have zg := zC.1.ge); clear hb6))
      all_goals
        clear hV hC
        go_wp2_with fail
        go_meet
        first | exact ⟨_, _, _, _, _, _, _, rfl, rfl, TtHeld.laid hbz gi hlo hlz⟩ | exact ⟨_, _, _, _, _, _, _, rfl, rfl, TtHeld.stored zC.1 hbz gi hlo hlz zC.2⟩
    case rest =>
      obtain ⟨gg, gA, gca, gL, gcl, gT, gct, rfl, rfl, hh⟩ := hcut
      obtain ⟨hb, gb, ⟨glo, ghi, go, glo1, glh, ghi1, gd⟩, gg0, gg1⟩ := hh
      clear hV hC
      generalize wc = w5 at *
      have gH := Lib.hid go
      have gB := Lib.hid gb
      clear go gb
      have hs4 := hb.size
      have hq : Below w0.heap.size w4 w5 := hb.mono (by omega)
      replace HB := Lib.hid (HB.out.trans (hq.mono hw0))
      replace xHh1 := Lib.hid (xHh1.out.at_below hq)
      replace xHh2 := Lib.hid (xHh2.out.at_below hq)
      replace xHh3 := Lib.hid (xHh3.out.at_below hq)
      replace xHC := Lib.hid (xHC.out.below hq xlt)
      replace yHC : Hid (w5.cell? ⟨(w.heap.size + 1), 0, none⟩ = some (.int .i64 ya) ∧ w5.cell? ⟨(w.heap.size + 1), 1, none⟩ = some (.int .i64 yb) ∧ w5.cell? ⟨(w.heap.size + 1), 2, none⟩ = some (.int .i64 yc)) := Lib.hid ⟨(hq.cell (p := ⟨_, 0, none⟩) ylt).trans yHC.out.1, (hq.cell (p := ⟨_, 1, none⟩) ylt).trans yHC.out.2.1, (hq.cell (p := ⟨_, 2, none⟩) ylt).trans yHC.out.2.2⟩
      replace wH := Lib.hid (wH.out.new_call hb (by omega))
      replace wB := Lib.hid (wB.out.below hb (by omega))
      replace xHi1 := Lib.hid (xHi1.out.new_call hb (by omega))
      replace xHi2 := Lib.hid (xHi2.out.new_call hb (by omega))
      replace xHi3 := Lib.hid (xHi3.out.new_call hb (by omega))
      replace xB := Lib.hid (xB.out.below hb (by omega))
      clear hq
      clear hb
      obtain ⟨cb0_0, cb0_1, cb0_2⟩ := gB.out
      have cl0 : gg < w5.heap.size := by omega
      obtain ⟨cb1_0, cb1_1, cb1_2⟩ := wB.out
      have cl1 : wg < w5.heap.size := by omega
      go_wp2_with fail
      refine (eqTimetable_same (adR x ⟨ya, yb, yc⟩).1 _ _ _ _ _ _ _ _ _ _ _ _ _ (gH.out.to_below (by omega)).s (gH.out.to_below (by omega)).l (gH.out.to_below (by omega)).t (wH.out.to_below (by omega)).s (wH.out.to_below (by omega)).l (wH.out.to_below (by omega)).t rf).mono ?_
      rintro e w6 ⟨rfl, hb⟩
      have hs5 := hb.size
      have hq : Below w0.heap.size w5 w6 := hb.mono (by omega)
      replace HB := Lib.hid (HB.out.trans (hq.mono hw0))
      replace xHh1 := Lib.hid (xHh1.out.at_below hq)
      replace xHh2 := Lib.hid (xHh2.out.at_below hq)
      replace xHh3 := Lib.hid (xHh3.out.at_below hq)
      replace xHC := Lib.hid (xHC.out.below hq xlt)
      replace yHC : Hid (w6.cell? ⟨(w.heap.size + 1), 0, none⟩ = some (.int .i64 ya) ∧ w6.cell? ⟨(w.heap.size + 1), 1, none⟩ = some (.int .i64 yb) ∧ w6.cell? ⟨(w.heap.size + 1), 2, none⟩ = some (.int .i64 yc)) := Lib.hid ⟨(hq.cell (p := ⟨_, 0, none⟩) ylt).trans yHC.out.1, (hq.cell (p := ⟨_, 1, none⟩) ylt).trans yHC.out.2.1, (hq.cell (p := ⟨_, 2, none⟩) ylt).trans yHC.out.2.2⟩
      replace wH := Lib.hid (wH.out.new_call hb (by omega))
      replace wB := Lib.hid (wB.out.below hb (by omega))
      replace xHi1 := Lib.hid (xHi1.out.new_call hb (by omega))
      replace xHi2 := Lib.hid (xHi2.out.new_call hb (by omega))
      replace xHi3 := Lib.hid (xHi3.out.new_call hb (by omega))
      replace xB := Lib.hid (xB.out.below hb (by omega))
      replace gH := Lib.hid (gH.out.new_call hb (by omega))
      replace gB := Lib.hid (gB.out.below hb (by omega))
      clear hq
      clear hb
      clear cb0_0 cb0_1 cb0_2
      clear cl0
      clear cb1_0 cb1_1 cb1_2
      clear cl1
      go_wp2_with fail
      have hC : ∀ w', Below w6.heap.size w6 w' → Tt3 w' w.heap.size x xA xca xL xcl xT xct := fun w' hb => xHC.out.below (hb.mono (by omega)) xlt
      have hD : ∀ w', Below w6.heap.size w6 w' → Tt3 w' w3.heap.size x (some ⟨xg, 0, none⟩) x.net.stops.length (some ⟨xh, 0, none⟩) x.net.lines.length (some ⟨xk, 0, none⟩) x.trips.length := fun w' hb => xB.out.below hb (by omega)
      unfold Tt3 at hC hD
      go_region_held3 (fun w' => Below w6.heap.size w6 w') (repeat' first | assumption | exact Nat.le_refl _ | exact Below.refl _ _ | (refine bel_drew ?_) | (refine bel_alloc ?_ _) | (refine bel_set ?_ ?_ _))
        (first
          | (go_at_call 25; refine (toTimetable_new x _ _ _ _ _ _ _ ((xHh1.out.mono (Zone.below_le (by omega))).call ‹Below w6.heap.size w6 _›) ((xHh2.out.mono (Zone.below_le (by omega))).call ‹Below w6.heap.size w6 _›) ((xHh3.out.mono (Zone.below_le (by omega))).call ‹Below w6.heap.size w6 _›) xf).mono ?_; rintro e wp ⟨mg, mh, mk, rfl, mi1, mi2, mi3, hb5⟩; have hB5 := bel_call ‹Below w6.heap.size w6 _› hb5; have Mi1 := Lib.hid (mi1.to_below (Nat.le_refl _)); have Mi2 := Lib.hid (mi2.to_below (Nat.le_refl _)); have Mi3 := Lib.hid (mi3.to_below (Nat.le_refl _)); clear mi1 mi2 mi3 hb5)
          | (go_at_call 28; refine (eqTimetable_same x _ _ _ _ _ _ _ _ _ _ _ _ _ ((xHi1.out.to_below (by omega)).call ‹Below w6.heap.size w6 _›) ((xHi2.out.to_below (by omega)).call ‹Below w6.heap.size w6 _›) ((xHi3.out.to_below (by omega)).call ‹Below w6.heap.size w6 _›) Mi1.out Mi2.out Mi3.out xf).mono ?_; rintro e wq ⟨rfl, hb6⟩; have hb := bel_call ‹Below w6.heap.size w6 wp› hb6; clear hb6))
      all_goals
        clear hC hD hB5 Mi1 Mi2 Mi3
        generalize wq = w7 at *
        have hs6 := hb.size
        have hq : Below w0.heap.size w6 w7 := hb.mono (by omega)
        replace HB := Lib.hid (HB.out.trans (hq.mono hw0))
        replace xHh1 := Lib.hid (xHh1.out.at_below hq)
        replace xHh2 := Lib.hid (xHh2.out.at_below hq)
        replace xHh3 := Lib.hid (xHh3.out.at_below hq)
        replace xHC := Lib.hid (xHC.out.below hq xlt)
        replace yHC : Hid (w7.cell? ⟨(w.heap.size + 1), 0, none⟩ = some (.int .i64 ya) ∧ w7.cell? ⟨(w.heap.size + 1), 1, none⟩ = some (.int .i64 yb) ∧ w7.cell? ⟨(w.heap.size + 1), 2, none⟩ = some (.int .i64 yc)) := Lib.hid ⟨(hq.cell (p := ⟨_, 0, none⟩) ylt).trans yHC.out.1, (hq.cell (p := ⟨_, 1, none⟩) ylt).trans yHC.out.2.1, (hq.cell (p := ⟨_, 2, none⟩) ylt).trans yHC.out.2.2⟩
        replace wH := Lib.hid (wH.out.new_call hb (by omega))
        replace wB := Lib.hid (wB.out.below hb (by omega))
        replace xHi1 := Lib.hid (xHi1.out.new_call hb (by omega))
        replace xHi2 := Lib.hid (xHi2.out.new_call hb (by omega))
        replace xHi3 := Lib.hid (xHi3.out.new_call hb (by omega))
        replace xB := Lib.hid (xB.out.below hb (by omega))
        replace gH := Lib.hid (gH.out.new_call hb (by omega))
        replace gB := Lib.hid (gB.out.below hb (by omega))
        clear hq
        clear hb
        obtain ⟨cb0_0, cb0_1, cb0_2⟩ := xB.out
        have cl0 : w3.heap.size < w7.heap.size := by omega
        go_wp2_with fail
        have hmk := markTimetable_any w2.heap.size w3.heap.size x _ _ _ x.net.stops.length x.net.lines.length x.trips.length 1 _ xHi1.out xHi2.out xHi3.out (by omega) xhn (by omega) (by omega)
        push_cast at hmk
        refine hmk.mono ?_
        rintro e w8 ⟨rfl, hm⟩
        clear hmk
        clear xHi1
        clear xHi2
        clear xHi3
        clear cb0_0 cb0_1 cb0_2
        clear cl0
        clear xB
        have hs7 := hm.size
        have hq : Below w0.heap.size w7 w8 := (hm.below (by omega)).mono (by omega)
        replace HB := Lib.hid (HB.out.trans (hq.mono hw0))
        replace xHh1 := Lib.hid (xHh1.out.at_below hq)
        replace xHh2 := Lib.hid (xHh2.out.at_below hq)
        replace xHh3 := Lib.hid (xHh3.out.at_below hq)
        replace xHC := Lib.hid (xHC.out.below hq xlt)
        replace yHC : Hid (w8.cell? ⟨(w.heap.size + 1), 0, none⟩ = some (.int .i64 ya) ∧ w8.cell? ⟨(w.heap.size + 1), 1, none⟩ = some (.int .i64 yb) ∧ w8.cell? ⟨(w.heap.size + 1), 2, none⟩ = some (.int .i64 yc)) := Lib.hid ⟨(hq.cell (p := ⟨_, 0, none⟩) ylt).trans yHC.out.1, (hq.cell (p := ⟨_, 1, none⟩) ylt).trans yHC.out.2.1, (hq.cell (p := ⟨_, 2, none⟩) ylt).trans yHC.out.2.2⟩
        replace wH := Lib.hid (wH.out.keep fun c hc => hm.same (by have := hc.1; have := hc.2; omega) (by have := hc.1; have := hc.2; omega))
        replace wB : Hid (Tt3 w8 wg (adR x ⟨ya, yb, yc⟩).1 wA wca wL wcl wT wct) := Lib.hid (by have hcc := wB.out; unfold Tt3 at hcc ⊢; simp only [(hm.same (b := wg) (by omega) (by omega) _).1]; exact hcc)
        replace gH := Lib.hid (gH.out.keep fun c hc => hm.same (by have := hc.1; have := hc.2; omega) (by have := hc.1; have := hc.2; omega))
        replace gB : Hid (Tt3 w8 gg (adR x ⟨ya, yb, yc⟩).1 gA gca gL gcl gT gct) := Lib.hid (by have hcc := gB.out; unfold Tt3 at hcc ⊢; simp only [(hm.same (b := gg) (by omega) (by omega) _).1]; exact hcc)
        clear hq
        clear hm
        skip
        have hkk : decide ((1 : Int) + ((cntT x : Nat) : Int) < 0) = false := by simp; omega
        push_cast at hkk
        obtain ⟨cb0_0, cb0_1, cb0_2⟩ := gB.out
        have cl0 : gg < w8.heap.size := by omega
        obtain ⟨cb1_0, cb1_1, cb1_2⟩ := wB.out
        have cl1 : wg < w8.heap.size := by omega
        go_wp2_with fail
        refine (eqTimetable_same (adR x ⟨ya, yb, yc⟩).1 _ _ _ _ _ _ _ _ _ _ _ _ _ (gH.out.to_below (by omega)).s (gH.out.to_below (by omega)).l (gH.out.to_below (by omega)).t (wH.out.to_below (by omega)).s (wH.out.to_below (by omega)).l (wH.out.to_below (by omega)).t rf).mono ?_
        rintro e w9 ⟨rfl, hb⟩
        have hs8 := hb.size
        have hq : Below w0.heap.size w8 w9 := hb.mono (by omega)
        replace HB := Lib.hid (HB.out.trans (hq.mono hw0))
        replace xHh1 := Lib.hid (xHh1.out.at_below hq)
        replace xHh2 := Lib.hid (xHh2.out.at_below hq)
        replace xHh3 := Lib.hid (xHh3.out.at_below hq)
        replace xHC := Lib.hid (xHC.out.below hq xlt)
        replace yHC : Hid (w9.cell? ⟨(w.heap.size + 1), 0, none⟩ = some (.int .i64 ya) ∧ w9.cell? ⟨(w.heap.size + 1), 1, none⟩ = some (.int .i64 yb) ∧ w9.cell? ⟨(w.heap.size + 1), 2, none⟩ = some (.int .i64 yc)) := Lib.hid ⟨(hq.cell (p := ⟨_, 0, none⟩) ylt).trans yHC.out.1, (hq.cell (p := ⟨_, 1, none⟩) ylt).trans yHC.out.2.1, (hq.cell (p := ⟨_, 2, none⟩) ylt).trans yHC.out.2.2⟩
        replace wH := Lib.hid (wH.out.new_call hb (by omega))
        replace wB := Lib.hid (wB.out.below hb (by omega))
        replace gH := Lib.hid (gH.out.new_call hb (by omega))
        replace gB := Lib.hid (gB.out.below hb (by omega))
        clear hq
        clear hb
        clear cb0_0 cb0_1 cb0_2
        clear cl0
        clear cb1_0 cb1_1 cb1_2
        clear cl1
        obtain ⟨cb0_0, cb0_1, cb0_2⟩ := gB.out
        have cl0 : gg < w9.heap.size := by omega
        go_wp2_with fail
        have hmk := markTimetable_res glo ghi (adR x ⟨ya, yb, yc⟩).1 gA gL gT gca gcl gct 1 _ gH.out (by omega) rn (by omega) (by omega)
        push_cast at hmk
        refine hmk.mono ?_
        rintro e w10 ⟨rfl, hm, gj⟩
        clear hmk
        clear cb0_0 cb0_1 cb0_2
        clear cl0
        clear gH
        have hs9 := hm.size
        have hq : Below w0.heap.size w9 w10 := (hm.below (by omega)).mono (by omega)
        replace HB := Lib.hid (HB.out.trans (hq.mono hw0))
        replace xHh1 := Lib.hid (xHh1.out.at_below hq)
        replace xHh2 := Lib.hid (xHh2.out.at_below hq)
        replace xHh3 := Lib.hid (xHh3.out.at_below hq)
        replace xHC := Lib.hid (xHC.out.below hq xlt)
        replace yHC : Hid (w10.cell? ⟨(w.heap.size + 1), 0, none⟩ = some (.int .i64 ya) ∧ w10.cell? ⟨(w.heap.size + 1), 1, none⟩ = some (.int .i64 yb) ∧ w10.cell? ⟨(w.heap.size + 1), 2, none⟩ = some (.int .i64 yc)) := Lib.hid ⟨(hq.cell (p := ⟨_, 0, none⟩) ylt).trans yHC.out.1, (hq.cell (p := ⟨_, 1, none⟩) ylt).trans yHC.out.2.1, (hq.cell (p := ⟨_, 2, none⟩) ylt).trans yHC.out.2.2⟩
        replace wH := Lib.hid (wH.out.keep fun c hc => hm.same (by have := hc.1; have := hc.2; omega) (by have := hc.1; have := hc.2; omega))
        replace wB : Hid (Tt3 w10 wg (adR x ⟨ya, yb, yc⟩).1 wA wca wL wcl wT wct) := Lib.hid (by have hcc := wB.out; unfold Tt3 at hcc ⊢; simp only [(hm.same (b := wg) (by omega) (by omega) _).1]; exact hcc)
        replace gB : Hid (Tt3 w10 gg (adR x ⟨ya, yb, yc⟩).1 gA gca gL gcl gT gct) := Lib.hid (by have hcc := gB.out; unfold Tt3 at hcc ⊢; simp only [(hm.same (b := gg) (by omega) (by omega) _).1]; exact hcc)
        clear hq
        clear hm
        have gM := Lib.hid gj
        clear gj
        have hkr : decide ((1 : Int) + ((cntT (adR x ⟨ya, yb, yc⟩).1 : Nat) : Int) < 0) = false := by simp; omega
        push_cast at hkr
        obtain ⟨cb0_0, cb0_1, cb0_2⟩ := gB.out
        have cl0 : gg < w10.heap.size := by omega
        go_wp2_with fail
        have hhd := heldTimetable_res (adR x ⟨ya, yb, yc⟩).1 gA gL gT gca gcl gct 1 _ (gM.out.to_below (by omega)) rn (by omega) (by omega)
        push_cast at hhd
        refine hhd.mono ?_
        rintro e w11 ⟨rfl, hb⟩
        clear hhd
        have hs10 := hb.size
        have hq : Below w0.heap.size w10 w11 := hb.mono (by omega)
        replace HB := Lib.hid (HB.out.trans (hq.mono hw0))
        replace xHh1 := Lib.hid (xHh1.out.at_below hq)
        replace xHh2 := Lib.hid (xHh2.out.at_below hq)
        replace xHh3 := Lib.hid (xHh3.out.at_below hq)
        replace xHC := Lib.hid (xHC.out.below hq xlt)
        replace yHC : Hid (w11.cell? ⟨(w.heap.size + 1), 0, none⟩ = some (.int .i64 ya) ∧ w11.cell? ⟨(w.heap.size + 1), 1, none⟩ = some (.int .i64 yb) ∧ w11.cell? ⟨(w.heap.size + 1), 2, none⟩ = some (.int .i64 yc)) := Lib.hid ⟨(hq.cell (p := ⟨_, 0, none⟩) ylt).trans yHC.out.1, (hq.cell (p := ⟨_, 1, none⟩) ylt).trans yHC.out.2.1, (hq.cell (p := ⟨_, 2, none⟩) ylt).trans yHC.out.2.2⟩
        replace wH := Lib.hid (wH.out.new_call hb (by omega))
        replace wB := Lib.hid (wB.out.below hb (by omega))
        replace gB := Lib.hid (gB.out.below hb (by omega))
        replace gM := Lib.hid (gM.out.new_call hb (by omega))
        clear hq
        clear hb
        clear cb0_0 cb0_1 cb0_2
        clear cl0
        go_upto_region 24 with fail
        have hV : ∀ w', Below w11.heap.size w11 w' → (w'.cell? ⟨(w.heap.size + 1), 0, none⟩ = some (.int .i64 ya) ∧ w'.cell? ⟨(w.heap.size + 1), 1, none⟩ = some (.int .i64 yb) ∧ w'.cell? ⟨(w.heap.size + 1), 2, none⟩ = some (.int .i64 yc)) := fun w' hb => (have hq := hb.mono (by omega : w0.heap.size ≤ w11.heap.size); ⟨(hq.cell (p := ⟨_, 0, none⟩) ylt).trans yHC.out.1, (hq.cell (p := ⟨_, 1, none⟩) ylt).trans yHC.out.2.1, (hq.cell (p := ⟨_, 2, none⟩) ylt).trans yHC.out.2.2⟩)
        have hC : ∀ w', Below w11.heap.size w11 w' → Tt3 w' w.heap.size x xA xca xL xcl xT xct := fun w' hb => xHC.out.below (hb.mono (by omega)) xlt
        unfold Tt3 at hC
        go_cut [14, 15] (fun s1 s2 wx => ∃ g A ca L cl T ct, s1 = .pointer (some ⟨g, 0, none⟩) ∧ s2 = .bool ((adR x ⟨ya, yb, yc⟩).2) ∧ TtHeld w11 wx (adR x ⟨ya, yb, yc⟩).1 g A ca L cl T ct)
        case first =>
          go_region_held3 (fun w' => Below w11.heap.size w11 w') (repeat' first | assumption | exact Nat.le_refl _ | exact Below.refl _ _ | (refine bel_drew ?_) | (refine bel_alloc ?_ _) | (refine bel_set ?_ ?_ _))
            (first
              | (go_at_call 25; (with_reducible refine (toTimetable_new x _ _ _ _ _ _ _ ((xHh1.out.mono (Zone.below_le (by omega))).call ‹Below w11.heap.size w11 _›) ((xHh2.out.mono (Zone.below_le (by omega))).call ‹Below w11.heap.size w11 _›) ((xHh3.out.mono (Zone.below_le (by omega))).call ‹Below w11.heap.size w11 _›) xf).mono ?_); rintro e wp ⟨yg, yh, yk, rfl, yi1, yi2, yi3, hb5⟩; have hB5 := bel_call ‹Below w11.heap.size w11 _› hb5; (try have zA := zeroNew (Nat.le_refl w11.heap.size) hb5); have yHi1 := Lib.hid (yi1.to_below (Nat.le_refl _)); have yHi2 := Lib.hid (yi2.to_below (Nat.le_refl _)); have yHi3 := Lib.hid (yi3.to_below (Nat.le_refl _)); clear yi1 yi2 yi3 hb5)
              | (go_at_call 64; refine (toTrip_any ya yb yc _).mono ?_; rintro e wp2 ⟨rfl, hb7⟩; have hB7 := bel_call ‹Below w11.heap.size w11 _› hb7; (try have zB := zeroNew (Nat.le_refl w11.heap.size) hb7); (try have zB := zeroNew2 hB5.size hb7); (try have zB := ZeroAt.call zA hb7); (try have yNi1 := Lib.hid (yHi1.out.call hb7)); (try have yNi1 := Lib.hid ((yHi1.out.call ((Below.refl _ _).alloc (Nat.le_refl _) _)).call hb7)); (try have yNi2 := Lib.hid (yHi2.out.call hb7)); (try have yNi2 := Lib.hid ((yHi2.out.call ((Below.refl _ _).alloc (Nat.le_refl _) _)).call hb7)); (try have yNi3 := Lib.hid (yHi3.out.call hb7)); (try have yNi3 := Lib.hid ((yHi3.out.call ((Below.refl _ _).alloc (Nat.le_refl _) _)).call hb7)); clear hb7)
              | (go_at_call 65; refine (implAddTrip_any x ⟨ya, yb, yc⟩ _ _ _ _ _ _ _ _ _ _ (by first | exact yNi1.out | exact yNi1.out.call ((Below.refl _ _).alloc (Nat.le_refl _) _) | exact yHi1.out) (by first | exact yNi2.out | exact yNi2.out.call ((Below.refl _ _).alloc (Nat.le_refl _) _) | exact yHi2.out) (by first | exact yNi3.out | exact yNi3.out.call ((Below.refl _ _).alloc (Nat.le_refl _) _) | exact yHi3.out) xf).mono ?_; rintro e wz ⟨hA, hca, hL, hcl, hT, hct, rfl, hi, hb6⟩; have hlo := (‹Below w11.heap.size w11 _› : Below w11.heap.size w11 _).size; have hbz := bel_call ‹Below w11.heap.size w11 _› hb6; have hbs := hbz.size; have hlz := hb6.size; (try have zC := zeroNew3 hB7.size hb6); (try have zC := zeroCall3 zB hb6); (try have z0 := zC.1.c0); (try have z1 := zC.1.c1); (try have z2 := zC.1.c2); (try have zf0 := zC.1.fr 0); (try have zf1 := zC.1.fr 1); (try have zf2 := zC.1.fr 2); (try have zl := zC.1.lt); (try have zg := zC.1.ge); clear hb6))
          all_goals
            clear hV hC
            go_wp2_with fail
            go_meet
            first | exact ⟨_, _, _, _, _, _, _, rfl, rfl, TtHeld.laid hbz hi hlo hlz⟩ | exact ⟨_, _, _, _, _, _, _, rfl, rfl, TtHeld.stored zC.1 hbz hi hlo hlz zC.2⟩
        case rest =>
          obtain ⟨hg, hA, hca, hL, hcl, hT, hct, rfl, rfl, hh⟩ := hcut
          obtain ⟨hb, hb, ⟨hlo, hhi, ho, hlo1, hlh, hhi1, hd⟩, hg0, hg1⟩ := hh
          clear hV hC
          generalize wc = w12 at *
          have hH := Lib.hid ho
          have hB := Lib.hid hb
          clear ho hb
          have hs11 := hb.size
          have hq : Below w0.heap.size w11 w12 := hb.mono (by omega)
          replace HB := Lib.hid (HB.out.trans (hq.mono hw0))
          replace xHh1 := Lib.hid (xHh1.out.at_below hq)
          replace xHh2 := Lib.hid (xHh2.out.at_below hq)
          replace xHh3 := Lib.hid (xHh3.out.at_below hq)
          replace xHC := Lib.hid (xHC.out.below hq xlt)
          replace yHC : Hid (w12.cell? ⟨(w.heap.size + 1), 0, none⟩ = some (.int .i64 ya) ∧ w12.cell? ⟨(w.heap.size + 1), 1, none⟩ = some (.int .i64 yb) ∧ w12.cell? ⟨(w.heap.size + 1), 2, none⟩ = some (.int .i64 yc)) := Lib.hid ⟨(hq.cell (p := ⟨_, 0, none⟩) ylt).trans yHC.out.1, (hq.cell (p := ⟨_, 1, none⟩) ylt).trans yHC.out.2.1, (hq.cell (p := ⟨_, 2, none⟩) ylt).trans yHC.out.2.2⟩
          replace wH := Lib.hid (wH.out.new_call hb (by omega))
          replace wB := Lib.hid (wB.out.below hb (by omega))
          replace gB := Lib.hid (gB.out.below hb (by omega))
          replace gM := Lib.hid (gM.out.new_call hb (by omega))
          clear hq
          clear hb
          obtain ⟨cb0_0, cb0_1, cb0_2⟩ := hB.out
          have cl0 : hg < w12.heap.size := by omega
          obtain ⟨cb1_0, cb1_1, cb1_2⟩ := wB.out
          have cl1 : wg < w12.heap.size := by omega
          go_wp2_with fail
          refine (eqTimetable_same (adR x ⟨ya, yb, yc⟩).1 _ _ _ _ _ _ _ _ _ _ _ _ _ (hH.out.to_below (by omega)).s (hH.out.to_below (by omega)).l (hH.out.to_below (by omega)).t (wH.out.to_below (by omega)).s (wH.out.to_below (by omega)).l (wH.out.to_below (by omega)).t rf).mono ?_
          rintro e w13 ⟨rfl, hb⟩
          have hs12 := hb.size
          have hq : Below w0.heap.size w12 w13 := hb.mono (by omega)
          replace HB := Lib.hid (HB.out.trans (hq.mono hw0))
          replace xHh1 := Lib.hid (xHh1.out.at_below hq)
          replace xHh2 := Lib.hid (xHh2.out.at_below hq)
          replace xHh3 := Lib.hid (xHh3.out.at_below hq)
          replace xHC := Lib.hid (xHC.out.below hq xlt)
          replace yHC : Hid (w13.cell? ⟨(w.heap.size + 1), 0, none⟩ = some (.int .i64 ya) ∧ w13.cell? ⟨(w.heap.size + 1), 1, none⟩ = some (.int .i64 yb) ∧ w13.cell? ⟨(w.heap.size + 1), 2, none⟩ = some (.int .i64 yc)) := Lib.hid ⟨(hq.cell (p := ⟨_, 0, none⟩) ylt).trans yHC.out.1, (hq.cell (p := ⟨_, 1, none⟩) ylt).trans yHC.out.2.1, (hq.cell (p := ⟨_, 2, none⟩) ylt).trans yHC.out.2.2⟩
          replace wH := Lib.hid (wH.out.new_call hb (by omega))
          replace wB := Lib.hid (wB.out.below hb (by omega))
          replace gB := Lib.hid (gB.out.below hb (by omega))
          replace gM := Lib.hid (gM.out.new_call hb (by omega))
          replace hH := Lib.hid (hH.out.new_call hb (by omega))
          replace hB := Lib.hid (hB.out.below hb (by omega))
          clear hq
          clear hb
          clear cb0_0 cb0_1 cb0_2
          clear cl0
          clear cb1_0 cb1_1 cb1_2
          clear cl1
          obtain ⟨cb0_0, cb0_1, cb0_2⟩ := gB.out
          have cl0 : gg < w13.heap.size := by omega
          go_wp2_with fail
          have hhd := heldTimetable_res (adR x ⟨ya, yb, yc⟩).1 gA gL gT gca gcl gct 1 _ (gM.out.to_below (by omega)) rn (by omega) (by omega)
          push_cast at hhd
          refine hhd.mono ?_
          rintro e w14 ⟨rfl, hb⟩
          clear hhd
          have hs13 := hb.size
          have hq : Below w0.heap.size w13 w14 := hb.mono (by omega)
          replace HB := Lib.hid (HB.out.trans (hq.mono hw0))
          replace xHh1 := Lib.hid (xHh1.out.at_below hq)
          replace xHh2 := Lib.hid (xHh2.out.at_below hq)
          replace xHh3 := Lib.hid (xHh3.out.at_below hq)
          replace xHC := Lib.hid (xHC.out.below hq xlt)
          replace yHC : Hid (w14.cell? ⟨(w.heap.size + 1), 0, none⟩ = some (.int .i64 ya) ∧ w14.cell? ⟨(w.heap.size + 1), 1, none⟩ = some (.int .i64 yb) ∧ w14.cell? ⟨(w.heap.size + 1), 2, none⟩ = some (.int .i64 yc)) := Lib.hid ⟨(hq.cell (p := ⟨_, 0, none⟩) ylt).trans yHC.out.1, (hq.cell (p := ⟨_, 1, none⟩) ylt).trans yHC.out.2.1, (hq.cell (p := ⟨_, 2, none⟩) ylt).trans yHC.out.2.2⟩
          replace wH := Lib.hid (wH.out.new_call hb (by omega))
          replace wB := Lib.hid (wB.out.below hb (by omega))
          replace gB := Lib.hid (gB.out.below hb (by omega))
          replace gM := Lib.hid (gM.out.new_call hb (by omega))
          replace hH := Lib.hid (hH.out.new_call hb (by omega))
          replace hB := Lib.hid (hB.out.below hb (by omega))
          clear hq
          clear hb
          clear cb0_0 cb0_1 cb0_2
          clear cl0
          go_wp2_with fail
          go_ret
          exact ⟨rfl, HB.out⟩

end Go.Proofs.Ytambgommeannnaa
