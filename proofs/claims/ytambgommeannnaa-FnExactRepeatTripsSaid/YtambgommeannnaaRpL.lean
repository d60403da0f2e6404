/- The walk of the law of RepeatTrips. -/
import Derived.Test.YtambgommeannnaaRpv
namespace Go.Proofs.Ytambgommeannnaa
open Go.ChangeShapes Go.WideShapes Go.ChangeAt Go.RowKit Go.PlainAid
set_option linter.unusedVariables false
set_option linter.unusedSimpArgs false

set_option maxRecDepth 100000 in
set_option maxHeartbeats 4000000 in
theorem fnRepeatTrips_walk (vx : Value) (x : TTD) (ia : Int) (wia : (Lit.int .i64 ia).wf = true) (ib : Int) (wib : (Lit.int .i64 ib).wf = true) (ic : Int) (wic : (Lit.int .i64 ic).wf = true) (idd : Int) (widd : (Lit.int .i64 idd).wf = true) (w : World) (hx : LTt w vx x) :
    Calls Try.prog 14 #[vx, .int .i64 ia, .int .i64 ib, .int .i64 ic, .int .i64 idd] w fun e w' => e = .returned (.bool true) ∧ Below w.heap.size w w' := by
  obtain ⟨xA, xca, xL, xcl, xT, xct, rfl, xh1, xh2, xh3, xl1, xl2, xl3, xl4, xl5⟩ := hx
  have iawf := wia
  try clear wia
  have ibwf := wib
  try clear wib
  have icwf := wic
  try clear wic
  have iddwf := widd
  try clear widd
  have hb0 : Below w.heap.size w (w.alloc (.cells #[.slice xA x.net.stops.length xca, .slice xL x.net.lines.length xcl, .slice xT x.trips.length xct] 39)) := by go_grown
  have xHh1 := Lib.hid ((xh1.call hb0).mono (Zone.below_le (Nat.le_refl (w.alloc (.cells #[.slice xA x.net.stops.length xca, .slice xL x.net.lines.length xcl, .slice xT x.trips.length xct] 39)).heap.size)))
  have xHh2 := Lib.hid ((xh2.call hb0).mono (Zone.below_le (Nat.le_refl (w.alloc (.cells #[.slice xA x.net.stops.length xca, .slice xL x.net.lines.length xcl, .slice xT x.trips.length xct] 39)).heap.size)))
  have xHh3 := Lib.hid ((xh3.call hb0).mono (Zone.below_le (Nat.le_refl (w.alloc (.cells #[.slice xA x.net.stops.length xca, .slice xL x.net.lines.length xcl, .slice xT x.trips.length xct] 39)).heap.size)))
  clear xh1 xh2 xh3
  have xHC : Hid (Tt3 (w.alloc (.cells #[.slice xA x.net.stops.length xca, .slice xL x.net.lines.length xcl, .slice xT x.trips.length xct] 39)) w.heap.size x xA xca xL xcl xT xct) := Lib.hid (by refine ⟨?_, ?_, ?_⟩ <;> go_simp)
  have xlt : w.heap.size < (w.alloc (.cells #[.slice xA x.net.stops.length xca, .slice xL x.net.lines.length xcl, .slice xT x.trips.length xct] 39)).heap.size := by simp
  have HB := Lib.hid hb0
  have hw0 : w.heap.size ≤ (w.alloc (.cells #[.slice xA x.net.stops.length xca, .slice xL x.net.lines.length xcl, .slice xT x.trips.length xct] 39)).heap.size := hb0.size
  clear hb0
  by_cases xhz : szI (szTT x) 1048576 < 0
  · skip
    go_enter Try.func14, Try.ntmps14
    go_wp2_with fail
    generalize (w.alloc (.cells #[.slice xA x.net.stops.length xca, .slice xL x.net.lines.length xcl, .slice xT x.trips.length xct] 39)) = w0 at *
    obtain ⟨cb0_0, cb0_1, cb0_2⟩ := xHC.out
    have cl0 : w.heap.size < w0.heap.size := by omega
    go_wp2_with fail
    refine (szTimetable_any x _ _ _ _ _ _ _ _ (xHh1.out.mono (Zone.below_le (by omega))) (xHh2.out.mono (Zone.below_le (by omega))) (by omega) (by omega) xl1 xl2 xl3 xl4 xl5).mono ?_
    rintro e w1 ⟨rfl, hb⟩
    have hs0 := hb.size
    have hq : Below w0.heap.size w0 w1 := hb.mono (by omega)
    replace HB := Lib.hid (HB.out.trans (hq.mono hw0))
    replace xHh1 := Lib.hid (xHh1.out.at_below hq)
    replace xHh2 := Lib.hid (xHh2.out.at_below hq)
    replace xHh3 := Lib.hid (xHh3.out.at_below hq)
    replace xHC := Lib.hid (xHC.out.below hq xlt)
    clear hq
    clear hb
    clear cb0_0 cb0_1 cb0_2
    clear cl0
    go_wp2_with fail
    go_ret
    exact ⟨rfl, HB.out⟩
  have xhn := szNet_le xhz (by omega)
  have xf := fitsT_le xhn
  have xle : szI (szTT x) 1048576 ≤ 1048576 := szI_le (by omega)
  have rn : szTT (rpR x ia ib ic idd).1 ≤ 1048576 := rpR_sz x ia ib ic idd
  have rf : FitsT (rpR x ia ib ic idd).1 := fitsT_le rn
  go_enter Try.func14, Try.ntmps14
  go_wp2_with fail
  generalize (w.alloc (.cells #[.slice xA x.net.stops.length xca, .slice xL x.net.lines.length xcl, .slice xT x.trips.length xct] 39)) = w0 at *
  obtain ⟨cb0_0, cb0_1, cb0_2⟩ := xHC.out
  have cl0 : w.heap.size < w0.heap.size := by omega
  go_wp2_with fail
  refine (szTimetable_any x _ _ _ _ _ _ _ _ (xHh1.out.mono (Zone.below_le (by omega))) (xHh2.out.mono (Zone.below_le (by omega))) (by omega) (by omega) xl1 xl2 xl3 xl4 xl5).mono ?_
  rintro e w1 ⟨rfl, hb⟩
  have hs0 := hb.size
  have hq : Below w0.heap.size w0 w1 := hb.mono (by omega)
  replace HB := Lib.hid (HB.out.trans (hq.mono hw0))
  replace xHh1 := Lib.hid (xHh1.out.at_below hq)
  replace xHh2 := Lib.hid (xHh2.out.at_below hq)
  replace xHh3 := Lib.hid (xHh3.out.at_below hq)
  replace xHC := Lib.hid (xHC.out.below hq xlt)
  clear hq
  clear hb
  clear cb0_0 cb0_1 cb0_2
  clear cl0
  clear xl1 xl2 xl3 xl4 xl5
  obtain ⟨cb0_0, cb0_1, cb0_2⟩ := xHC.out
  have cl0 : w.heap.size < w1.heap.size := by omega
  go_wp2_with fail
  refine (toTimetable_new x _ _ _ _ _ _ _ (xHh1.out.mono (Zone.below_le (by omega))) (xHh2.out.mono (Zone.below_le (by omega))) (xHh3.out.mono (Zone.below_le (by omega))) xf).mono ?_
  rintro e w2 ⟨sg, sh, sk, rfl, si1, si2, si3, hb⟩
  have hs1 := hb.size
  have hq : Below w0.heap.size w1 w2 := hb.mono (by omega)
  replace HB := Lib.hid (HB.out.trans (hq.mono hw0))
  replace xHh1 := Lib.hid (xHh1.out.at_below hq)
  replace xHh2 := Lib.hid (xHh2.out.at_below hq)
  replace xHh3 := Lib.hid (xHh3.out.at_below hq)
  replace xHC := Lib.hid (xHC.out.below hq xlt)
  clear hq
  clear hb
  clear cb0_0 cb0_1 cb0_2
  clear cl0
  have sHi1 := Lib.hid si1
  clear si1
  have sHi2 := Lib.hid si2
  clear si2
  have sHi3 := Lib.hid si3
  clear si3
  go_wp2_with fail
  refine (specRepeatTrips_any x ia ib ic idd (i64_le icwf) (i64_le iddwf) _ _ _ _ _ _ _ _ _ _ (sHi1.out.to_below (by omega)) (sHi2.out.to_below (by omega)) (sHi3.out.to_below (by omega)) xf (Nat.le_refl _)).mono ?_
  rintro e w3 ⟨wA, wca, wL, wcl, wT, wct, rfl, wi, hb⟩
  have hs2 := hb.size
  have hq : Below w0.heap.size w2 w3 := hb.mono (by omega)
  replace HB := Lib.hid (HB.out.trans (hq.mono hw0))
  replace xHh1 := Lib.hid (xHh1.out.at_below hq)
  replace xHh2 := Lib.hid (xHh2.out.at_below hq)
  replace xHh3 := Lib.hid (xHh3.out.at_below hq)
  replace xHC := Lib.hid (xHC.out.below hq xlt)
  replace sHi1 := Lib.hid (sHi1.out.new_call hb (by omega))
  replace sHi2 := Lib.hid (sHi2.out.new_call hb (by omega))
  replace sHi3 := Lib.hid (sHi3.out.new_call hb (by omega))
  clear hq
  clear hb
  have wH := Lib.hid wi
  clear wi
  clear sHi1
  clear sHi2
  clear sHi3
  obtain ⟨cb0_0, cb0_1, cb0_2⟩ := xHC.out
  have cl0 : w.heap.size < w3.heap.size := by omega
  go_wp2_with fail
  have hb : Below w3.heap.size w3 (w3.alloc (.cells #[.slice wA (rpR x ia ib ic idd).1.net.stops.length wca, .slice wL (rpR x ia ib ic idd).1.net.lines.length wcl, .slice wT (rpR x ia ib ic idd).1.trips.length wct] 49)) := by go_grown
  have wB : Hid (Tt3 (w3.alloc (.cells #[.slice wA (rpR x ia ib ic idd).1.net.stops.length wca, .slice wL (rpR x ia ib ic idd).1.net.lines.length wcl, .slice wT (rpR x ia ib ic idd).1.trips.length wct] 49)) w3.heap.size (rpR x ia ib ic idd).1 wA wca wL wcl wT wct) := Lib.hid (by refine ⟨?_, ?_, ?_⟩ <;> go_simp)
  have wBlt : w3.heap.size < (w3.alloc (.cells #[.slice wA (rpR x ia ib ic idd).1.net.stops.length wca, .slice wL (rpR x ia ib ic idd).1.net.lines.length wcl, .slice wT (rpR x ia ib ic idd).1.trips.length wct] 49)).heap.size := by simp
  generalize (w3.alloc (.cells #[.slice wA (rpR x ia ib ic idd).1.net.stops.length wca, .slice wL (rpR x ia ib ic idd).1.net.lines.length wcl, .slice wT (rpR x ia ib ic idd).1.trips.length wct] 49)) = w4 at *
  have hs3 := hb.size
  have hq : Below w0.heap.size w3 w4 := hb.mono (by omega)
  replace HB := Lib.hid (HB.out.trans (hq.mono hw0))
  replace xHh1 := Lib.hid (xHh1.out.at_below hq)
  replace xHh2 := Lib.hid (xHh2.out.at_below hq)
  replace xHh3 := Lib.hid (xHh3.out.at_below hq)
  replace xHC := Lib.hid (xHC.out.below hq xlt)
  replace wH := Lib.hid (wH.out.new_call hb (by omega))
  clear hq
  clear hb
  clear cb0_0 cb0_1 cb0_2
  clear cl0
  obtain ⟨cb0_0, cb0_1, cb0_2⟩ := xHC.out
  have cl0 : w.heap.size < w4.heap.size := by omega
  go_wp2_with fail
  refine (toTimetable_new x _ _ _ _ _ _ _ (xHh1.out.mono (Zone.below_le (by omega))) (xHh2.out.mono (Zone.below_le (by omega))) (xHh3.out.mono (Zone.below_le (by omega))) xf).mono ?_
  rintro e w5 ⟨xg, xh, xk, rfl, xi1, xi2, xi3, hb⟩
  have hs4 := hb.size
  have hq : Below w0.heap.size w4 w5 := hb.mono (by omega)
  replace HB := Lib.hid (HB.out.trans (hq.mono hw0))
  replace xHh1 := Lib.hid (xHh1.out.at_below hq)
  replace xHh2 := Lib.hid (xHh2.out.at_below hq)
  replace xHh3 := Lib.hid (xHh3.out.at_below hq)
  replace xHC := Lib.hid (xHC.out.below hq xlt)
  replace wH := Lib.hid (wH.out.new_call hb (by omega))
  replace wB := Lib.hid (wB.out.below hb (by omega))
  clear hq
  clear hb
  clear cb0_0 cb0_1 cb0_2
  clear cl0
  have xHi1 := Lib.hid xi1
  clear xi1
  have xHi2 := Lib.hid xi2
  clear xi2
  have xHi3 := Lib.hid xi3
  clear xi3
  go_wp2_with fail
  have hb : Below w5.heap.size w5 (w5.alloc (.cells #[.slice (some ⟨xg, 0, none⟩) x.net.stops.length x.net.stops.length, .slice (some ⟨xh, 0, none⟩) x.net.lines.length x.net.lines.length, .slice (some ⟨xk, 0, none⟩) x.trips.length x.trips.length] 49)) := by go_grown
  have xB : Hid (Tt3 (w5.alloc (.cells #[.slice (some ⟨xg, 0, none⟩) x.net.stops.length x.net.stops.length, .slice (some ⟨xh, 0, none⟩) x.net.lines.length x.net.lines.length, .slice (some ⟨xk, 0, none⟩) x.trips.length x.trips.length] 49)) w5.heap.size x (some ⟨xg, 0, none⟩) x.net.stops.length (some ⟨xh, 0, none⟩) x.net.lines.length (some ⟨xk, 0, none⟩) x.trips.length) := Lib.hid (by refine ⟨?_, ?_, ?_⟩ <;> go_simp)
  have xBlt : w5.heap.size < (w5.alloc (.cells #[.slice (some ⟨xg, 0, none⟩) x.net.stops.length x.net.stops.length, .slice (some ⟨xh, 0, none⟩) x.net.lines.length x.net.lines.length, .slice (some ⟨xk, 0, none⟩) x.trips.length x.trips.length] 49)).heap.size := by simp
  generalize (w5.alloc (.cells #[.slice (some ⟨xg, 0, none⟩) x.net.stops.length x.net.stops.length, .slice (some ⟨xh, 0, none⟩) x.net.lines.length x.net.lines.length, .slice (some ⟨xk, 0, none⟩) x.trips.length x.trips.length] 49)) = w6 at *
  have hs5 := hb.size
  have hq : Below w0.heap.size w5 w6 := hb.mono (by omega)
  replace HB := Lib.hid (HB.out.trans (hq.mono hw0))
  replace xHh1 := Lib.hid (xHh1.out.at_below hq)
  replace xHh2 := Lib.hid (xHh2.out.at_below hq)
  replace xHh3 := Lib.hid (xHh3.out.at_below hq)
  replace xHC := Lib.hid (xHC.out.below hq xlt)
  replace wH := Lib.hid (wH.out.new_call hb (by omega))
  replace wB := Lib.hid (wB.out.below hb (by omega))
  replace xHi1 := Lib.hid (xHi1.out.new_call hb (by omega))
  replace xHi2 := Lib.hid (xHi2.out.new_call hb (by omega))
  replace xHi3 := Lib.hid (xHi3.out.new_call hb (by omega))
  clear hq
  clear hb
  go_wp2_with fail
  refine (implRepeatTrips_any x ia ib ic idd (i64_le icwf) (i64_le iddwf) _ _ _ _ _ _ _ _ _ _ (xHi1.out.to_below (by omega)) (xHi2.out.to_below (by omega)) (xHi3.out.to_below (by omega)) xf (Nat.le_refl _)).mono ?_
  rintro e w7 ⟨gA, gca, gL, gcl, gT, gct, rfl, gi, hb⟩
  have hs6 := hb.size
  have hq : Below w0.heap.size w6 w7 := hb.mono (by omega)
  replace HB := Lib.hid (HB.out.trans (hq.mono hw0))
  replace xHh1 := Lib.hid (xHh1.out.at_below hq)
  replace xHh2 := Lib.hid (xHh2.out.at_below hq)
  replace xHh3 := Lib.hid (xHh3.out.at_below hq)
  replace xHC := Lib.hid (xHC.out.below hq xlt)
  replace wH := Lib.hid (wH.out.new_call hb (by omega))
  replace wB := Lib.hid (wB.out.below hb (by omega))
  replace xHi1 := Lib.hid (xHi1.out.new_call hb (by omega))
  replace xHi2 := Lib.hid (xHi2.out.new_call hb (by omega))
  replace xHi3 := Lib.hid (xHi3.out.new_call hb (by omega))
  replace xB := Lib.hid (xB.out.below hb (by omega))
  clear hq
  clear hb
  have gH := Lib.hid gi
  clear gi
  obtain ⟨cb0_0, cb0_1, cb0_2⟩ := wB.out
  have cl0 : w3.heap.size < w7.heap.size := by omega
  go_wp2_with fail
  have hb : Below w7.heap.size w7 (w7.alloc (.cells #[.slice gA (rpR x ia ib ic idd).1.net.stops.length gca, .slice gL (rpR x ia ib ic idd).1.net.lines.length gcl, .slice gT (rpR x ia ib ic idd).1.trips.length gct] 49)) := by go_grown
  have gB : Hid (Tt3 (w7.alloc (.cells #[.slice gA (rpR x ia ib ic idd).1.net.stops.length gca, .slice gL (rpR x ia ib ic idd).1.net.lines.length gcl, .slice gT (rpR x ia ib ic idd).1.trips.length gct] 49)) w7.heap.size (rpR x ia ib ic idd).1 gA gca gL gcl gT gct) := Lib.hid (by refine ⟨?_, ?_, ?_⟩ <;> go_simp)
  have gBlt : w7.heap.size < (w7.alloc (.cells #[.slice gA (rpR x ia ib ic idd).1.net.stops.length gca, .slice gL (rpR x ia ib ic idd).1.net.lines.length gcl, .slice gT (rpR x ia ib ic idd).1.trips.length gct] 49)).heap.size := by simp
  generalize (w7.alloc (.cells #[.slice gA (rpR x ia ib ic idd).1.net.stops.length gca, .slice gL (rpR x ia ib ic idd).1.net.lines.length gcl, .slice gT (rpR x ia ib ic idd).1.trips.length gct] 49)) = w8 at *
  have hs7 := hb.size
  have hq : Below w0.heap.size w7 w8 := hb.mono (by omega)
  replace HB := Lib.hid (HB.out.trans (hq.mono hw0))
  replace xHh1 := Lib.hid (xHh1.out.at_below hq)
  replace xHh2 := Lib.hid (xHh2.out.at_below hq)
  replace xHh3 := Lib.hid (xHh3.out.at_below hq)
  replace xHC := Lib.hid (xHC.out.below hq xlt)
  replace wH := Lib.hid (wH.out.new_call hb (by omega))
  replace wB := Lib.hid (wB.out.below hb (by omega))
  replace xHi1 := Lib.hid (xHi1.out.new_call hb (by omega))
  replace xHi2 := Lib.hid (xHi2.out.new_call hb (by omega))
  replace xHi3 := Lib.hid (xHi3.out.new_call hb (by omega))
  replace xB := Lib.hid (xB.out.below hb (by omega))
  replace gH := Lib.hid (gH.out.new_call hb (by omega))
  clear hq
  clear hb
  clear cb0_0 cb0_1 cb0_2
  clear cl0
  obtain ⟨cb0_0, cb0_1, cb0_2⟩ := gB.out
  have cl0 : w7.heap.size < w8.heap.size := by omega
  obtain ⟨cb1_0, cb1_1, cb1_2⟩ := wB.out
  have cl1 : w3.heap.size < w8.heap.size := by omega
  go_wp2_with fail
  refine (eqTimetable_same (rpR x ia ib ic idd).1 _ _ _ _ _ _ _ _ _ _ _ _ _ (gH.out.to_below (by omega)).s (gH.out.to_below (by omega)).l (gH.out.to_below (by omega)).t (wH.out.to_below (by omega)).s (wH.out.to_below (by omega)).l (wH.out.to_below (by omega)).t rf).mono ?_
  rintro e w9 ⟨rfl, hb⟩
  have hs8 := hb.size
  have hq : Below w0.heap.size w8 w9 := hb.mono (by omega)
  replace HB := Lib.hid (HB.out.trans (hq.mono hw0))
  replace xHh1 := Lib.hid (xHh1.out.at_below hq)
  replace xHh2 := Lib.hid (xHh2.out.at_below hq)
  replace xHh3 := Lib.hid (xHh3.out.at_below hq)
  replace xHC := Lib.hid (xHC.out.below hq xlt)
  replace wH := Lib.hid (wH.out.new_call hb (by omega))
  replace wB := Lib.hid (wB.out.below hb (by omega))
  replace xHi1 := Lib.hid (xHi1.out.new_call hb (by omega))
  replace xHi2 := Lib.hid (xHi2.out.new_call hb (by omega))
  replace xHi3 := Lib.hid (xHi3.out.new_call hb (by omega))
  replace xB := Lib.hid (xB.out.below hb (by omega))
  replace gH := Lib.hid (gH.out.new_call hb (by omega))
  replace gB := Lib.hid (gB.out.below hb (by omega))
  clear hq
  clear hb
  clear cb0_0 cb0_1 cb0_2
  clear cl0
  clear cb1_0 cb1_1 cb1_2
  clear cl1
  go_wp2_with fail
  have hC : ∀ w', Below w9.heap.size w9 w' → Tt3 w' w.heap.size x xA xca xL xcl xT xct := fun w' hb => xHC.out.below (hb.mono (by omega)) xlt
  have hD : ∀ w', Below w9.heap.size w9 w' → Tt3 w' w5.heap.size x (some ⟨xg, 0, none⟩) x.net.stops.length (some ⟨xh, 0, none⟩) x.net.lines.length (some ⟨xk, 0, none⟩) x.trips.length := fun w' hb => xB.out.below hb (by omega)
  unfold Tt3 at hC hD
  go_region_held3 (fun w' => Below w9.heap.size w9 w') (repeat' first | assumption | exact Nat.le_refl _ | exact Below.refl _ _ | (refine bel_drew ?_) | (refine bel_alloc ?_ _) | (refine bel_set ?_ ?_ _))
    (first
      | (go_at_call 25; refine (toTimetable_new x _ _ _ _ _ _ _ ((xHh1.out.mono (Zone.below_le (by omega))).call ‹Below w9.heap.size w9 _›) ((xHh2.out.mono (Zone.below_le (by omega))).call ‹Below w9.heap.size w9 _›) ((xHh3.out.mono (Zone.below_le (by omega))).call ‹Below w9.heap.size w9 _›) xf).mono ?_; rintro e wp ⟨mg, mh, mk, rfl, mi1, mi2, mi3, hb5⟩; have hB5 := bel_call ‹Below w9.heap.size w9 _› hb5; have Mi1 := Lib.hid (mi1.to_below (Nat.le_refl _)); have Mi2 := Lib.hid (mi2.to_below (Nat.le_refl _)); have Mi3 := Lib.hid (mi3.to_below (Nat.le_refl _)); clear mi1 mi2 mi3 hb5)
      | (go_at_call 28; refine (eqTimetable_same x _ _ _ _ _ _ _ _ _ _ _ _ _ ((xHi1.out.to_below (by omega)).call ‹Below w9.heap.size w9 _›) ((xHi2.out.to_below (by omega)).call ‹Below w9.heap.size w9 _›) ((xHi3.out.to_below (by omega)).call ‹Below w9.heap.size w9 _›) Mi1.out Mi2.out Mi3.out xf).mono ?_; rintro e wq ⟨rfl, hb6⟩; have hb := bel_call ‹Below w9.heap.size w9 wp› hb6; clear hb6))
  all_goals
    clear hC hD hB5 Mi1 Mi2 Mi3
    generalize wq = w10 at *
    have hs9 := hb.size
    have hq : Below w0.heap.size w9 w10 := hb.mono (by omega)
    replace HB := Lib.hid (HB.out.trans (hq.mono hw0))
    replace xHh1 := Lib.hid (xHh1.out.at_below hq)
    replace xHh2 := Lib.hid (xHh2.out.at_below hq)
    replace xHh3 := Lib.hid (xHh3.out.at_below hq)
    replace xHC := Lib.hid (xHC.out.below hq xlt)
    replace wH := Lib.hid (wH.out.new_call hb (by omega))
    replace wB := Lib.hid (wB.out.below hb (by omega))
    replace xHi1 := Lib.hid (xHi1.out.new_call hb (by omega))
    replace xHi2 := Lib.hid (xHi2.out.new_call hb (by omega))
    replace xHi3 := Lib.hid (xHi3.out.new_call hb (by omega))
    replace xB := Lib.hid (xB.out.below hb (by omega))
    replace gH := Lib.hid (gH.out.new_call hb (by omega))
    replace gB := Lib.hid (gB.out.below hb (by omega))
    clear hq
    clear hb
    obtain ⟨cb0_0, cb0_1, cb0_2⟩ := xB.out
    have cl0 : w5.heap.size < w10.heap.size := by omega
    go_wp2_with fail
    have hmk := markTimetable_any w4.heap.size w5.heap.size x _ _ _ x.net.stops.length x.net.lines.length x.trips.length 1 _ xHi1.out xHi2.out xHi3.out (by omega) xhn (by omega) (by omega)
    push_cast at hmk
    refine hmk.mono ?_
    rintro e w11 ⟨rfl, hm⟩
    clear hmk
    clear xHi1
    clear xHi2
    clear xHi3
    clear cb0_0 cb0_1 cb0_2
    clear cl0
    clear xB
    have hs10 := hm.size
    have hq : Below w0.heap.size w10 w11 := (hm.below (by omega)).mono (by omega)
    replace HB := Lib.hid (HB.out.trans (hq.mono hw0))
    replace xHh1 := Lib.hid (xHh1.out.at_below hq)
    replace xHh2 := Lib.hid (xHh2.out.at_below hq)
    replace xHh3 := Lib.hid (xHh3.out.at_below hq)
    replace xHC := Lib.hid (xHC.out.below hq xlt)
    replace wH := Lib.hid (wH.out.keep fun c hc => hm.same (by have := hc.1; have := hc.2; omega) (by have := hc.1; have := hc.2; omega))
    replace wB : Hid (Tt3 w11 w3.heap.size (rpR x ia ib ic idd).1 wA wca wL wcl wT wct) := Lib.hid (by have hcc := wB.out; unfold Tt3 at hcc ⊢; simp only [(hm.same (b := w3.heap.size) (by omega) (by omega) _).1]; exact hcc)
    replace gH := Lib.hid (gH.out.keep fun c hc => hm.same (by have := hc.1; have := hc.2; omega) (by have := hc.1; have := hc.2; omega))
    replace gB : Hid (Tt3 w11 w7.heap.size (rpR x ia ib ic idd).1 gA gca gL gcl gT gct) := Lib.hid (by have hcc := gB.out; unfold Tt3 at hcc ⊢; simp only [(hm.same (b := w7.heap.size) (by omega) (by omega) _).1]; exact hcc)
    clear hq
    clear hm
    skip
    have hkk : decide ((1 : Int) + ((cntT x : Nat) : Int) < 0) = false := by simp; omega
    push_cast at hkk
    obtain ⟨cb0_0, cb0_1, cb0_2⟩ := gB.out
    have cl0 : w7.heap.size < w11.heap.size := by omega
    obtain ⟨cb1_0, cb1_1, cb1_2⟩ := wB.out
    have cl1 : w3.heap.size < w11.heap.size := by omega
    go_wp2_with fail
    refine (eqTimetable_same (rpR x ia ib ic idd).1 _ _ _ _ _ _ _ _ _ _ _ _ _ (gH.out.to_below (by omega)).s (gH.out.to_below (by omega)).l (gH.out.to_below (by omega)).t (wH.out.to_below (by omega)).s (wH.out.to_below (by omega)).l (wH.out.to_below (by omega)).t rf).mono ?_
    rintro e w12 ⟨rfl, hb⟩
    have hs11 := hb.size
    have hq : Below w0.heap.size w11 w12 := hb.mono (by omega)
    replace HB := Lib.hid (HB.out.trans (hq.mono hw0))
    replace xHh1 := Lib.hid (xHh1.out.at_below hq)
    replace xHh2 := Lib.hid (xHh2.out.at_below hq)
    replace xHh3 := Lib.hid (xHh3.out.at_below hq)
    replace xHC := Lib.hid (xHC.out.below hq xlt)
    replace wH := Lib.hid (wH.out.new_call hb (by omega))
    replace wB := Lib.hid (wB.out.below hb (by omega))
    replace gH := Lib.hid (gH.out.new_call hb (by omega))
    replace gB := Lib.hid (gB.out.below hb (by omega))
    clear hq
    clear hb
    clear cb0_0 cb0_1 cb0_2
    clear cl0
    clear cb1_0 cb1_1 cb1_2
    clear cl1
    obtain ⟨cb0_0, cb0_1, cb0_2⟩ := gB.out
    have cl0 : w7.heap.size < w12.heap.size := by omega
    go_wp2_with fail
    have hmk := markTimetable_res w6.heap.size w7.heap.size (rpR x ia ib ic idd).1 gA gL gT gca gcl gct 1 _ gH.out (by omega) rn (by omega) (by omega)
    push_cast at hmk
    refine hmk.mono ?_
    rintro e w13 ⟨rfl, hm, gj⟩
    clear hmk
    clear cb0_0 cb0_1 cb0_2
    clear cl0
    clear gH
    have hs12 := hm.size
    have hq : Below w0.heap.size w12 w13 := (hm.below (by omega)).mono (by omega)
    replace HB := Lib.hid (HB.out.trans (hq.mono hw0))
    replace xHh1 := Lib.hid (xHh1.out.at_below hq)
    replace xHh2 := Lib.hid (xHh2.out.at_below hq)
    replace xHh3 := Lib.hid (xHh3.out.at_below hq)
    replace xHC := Lib.hid (xHC.out.below hq xlt)
    replace wH := Lib.hid (wH.out.keep fun c hc => hm.same (by have := hc.1; have := hc.2; omega) (by have := hc.1; have := hc.2; omega))
    replace wB : Hid (Tt3 w13 w3.heap.size (rpR x ia ib ic idd).1 wA wca wL wcl wT wct) := Lib.hid (by have hcc := wB.out; unfold Tt3 at hcc ⊢; simp only [(hm.same (b := w3.heap.size) (by omega) (by omega) _).1]; exact hcc)
    replace gB : Hid (Tt3 w13 w7.heap.size (rpR x ia ib ic idd).1 gA gca gL gcl gT gct) := Lib.hid (by have hcc := gB.out; unfold Tt3 at hcc ⊢; simp only [(hm.same (b := w7.heap.size) (by omega) (by omega) _).1]; exact hcc)
    clear hq
    clear hm
    have gM := Lib.hid gj
    clear gj
    have hkr : decide ((1 : Int) + ((cntT (rpR x ia ib ic idd).1 : Nat) : Int) < 0) = false := by simp; omega
    push_cast at hkr
    obtain ⟨cb0_0, cb0_1, cb0_2⟩ := gB.out
    have cl0 : w7.heap.size < w13.heap.size := by omega
    go_wp2_with fail
    have hhd := heldTimetable_res (rpR x ia ib ic idd).1 gA gL gT gca gcl gct 1 _ (gM.out.to_below (by omega)) rn (by omega) (by omega)
    push_cast at hhd
    refine hhd.mono ?_
    rintro e w14 ⟨rfl, hb⟩
    clear hhd
    have hs13 := hb.size
    have hq : Below w0.heap.size w13 w14 := hb.mono (by omega)
    replace HB := Lib.hid (HB.out.trans (hq.mono hw0))
    replace xHh1 := Lib.hid (xHh1.out.at_below hq)
    replace xHh2 := Lib.hid (xHh2.out.at_below hq)
    replace xHh3 := Lib.hid (xHh3.out.at_below hq)
    replace xHC := Lib.hid (xHC.out.below hq xlt)
    replace wH := Lib.hid (wH.out.new_call hb (by omega))
    replace wB := Lib.hid (wB.out.below hb (by omega))
    replace gB := Lib.hid (gB.out.below hb (by omega))
    replace gM := Lib.hid (gM.out.new_call hb (by omega))
    clear hq
    clear hb
    clear cb0_0 cb0_1 cb0_2
    clear cl0
    obtain ⟨cb0_0, cb0_1, cb0_2⟩ := xHC.out
    have cl0 : w.heap.size < w14.heap.size := by omega
    go_wp2_with fail
    refine (toTimetable_new x _ _ _ _ _ _ _ (xHh1.out.mono (Zone.below_le (by omega))) (xHh2.out.mono (Zone.below_le (by omega))) (xHh3.out.mono (Zone.below_le (by omega))) xf).mono ?_
    rintro e w15 ⟨yg, yh, yk, rfl, yi1, yi2, yi3, hb⟩
    have hs14 := hb.size
    have hq : Below w0.heap.size w14 w15 := hb.mono (by omega)
    replace HB := Lib.hid (HB.out.trans (hq.mono hw0))
    replace xHh1 := Lib.hid (xHh1.out.at_below hq)
    replace xHh2 := Lib.hid (xHh2.out.at_below hq)
    replace xHh3 := Lib.hid (xHh3.out.at_below hq)
    replace xHC := Lib.hid (xHC.out.below hq xlt)
    replace wH := Lib.hid (wH.out.new_call hb (by omega))
    replace wB := Lib.hid (wB.out.below hb (by omega))
    replace gB := Lib.hid (gB.out.below hb (by omega))
    replace gM := Lib.hid (gM.out.new_call hb (by omega))
    clear hq
    clear hb
    clear cb0_0 cb0_1 cb0_2
    clear cl0
    have yHi1 := Lib.hid yi1
    clear yi1
    have yHi2 := Lib.hid yi2
    clear yi2
    have yHi3 := Lib.hid yi3
    clear yi3
    go_wp2_with fail
    refine (implRepeatTrips_any x ia ib ic idd (i64_le icwf) (i64_le iddwf) _ _ _ _ _ _ _ _ _ _ (yHi1.out.to_below (by omega)) (yHi2.out.to_below (by omega)) (yHi3.out.to_below (by omega)) xf (Nat.le_refl _)).mono ?_
    rintro e w16 ⟨hA, hca, hL, hcl, hT, hct, rfl, hi, hb⟩
    have hs15 := hb.size
    have hq : Below w0.heap.size w15 w16 := hb.mono (by omega)
    replace HB := Lib.hid (HB.out.trans (hq.mono hw0))
    replace xHh1 := Lib.hid (xHh1.out.at_below hq)
    replace xHh2 := Lib.hid (xHh2.out.at_below hq)
    replace xHh3 := Lib.hid (xHh3.out.at_below hq)
    replace xHC := Lib.hid (xHC.out.below hq xlt)
    replace wH := Lib.hid (wH.out.new_call hb (by omega))
    replace wB := Lib.hid (wB.out.below hb (by omega))
    replace gB := Lib.hid (gB.out.below hb (by omega))
    replace gM := Lib.hid (gM.out.new_call hb (by omega))
    replace yHi1 := Lib.hid (yHi1.out.new_call hb (by omega))
    replace yHi2 := Lib.hid (yHi2.out.new_call hb (by omega))
    replace yHi3 := Lib.hid (yHi3.out.new_call hb (by omega))
    clear hq
    clear hb
    have hH := Lib.hid hi
    clear hi
    obtain ⟨cb0_0, cb0_1, cb0_2⟩ := wB.out
    have cl0 : w3.heap.size < w16.heap.size := by omega
    go_wp2_with fail
    have hb : Below w16.heap.size w16 (w16.alloc (.cells #[.slice hA (rpR x ia ib ic idd).1.net.stops.length hca, .slice hL (rpR x ia ib ic idd).1.net.lines.length hcl, .slice hT (rpR x ia ib ic idd).1.trips.length hct] 49)) := by go_grown
    have hB : Hid (Tt3 (w16.alloc (.cells #[.slice hA (rpR x ia ib ic idd).1.net.stops.length hca, .slice hL (rpR x ia ib ic idd).1.net.lines.length hcl, .slice hT (rpR x ia ib ic idd).1.trips.length hct] 49)) w16.heap.size (rpR x ia ib ic idd).1 hA hca hL hcl hT hct) := Lib.hid (by refine ⟨?_, ?_, ?_⟩ <;> go_simp)
    have hBlt : w16.heap.size < (w16.alloc (.cells #[.slice hA (rpR x ia ib ic idd).1.net.stops.length hca, .slice hL (rpR x ia ib ic idd).1.net.lines.length hcl, .slice hT (rpR x ia ib ic idd).1.trips.length hct] 49)).heap.size := by simp
    generalize (w16.alloc (.cells #[.slice hA (rpR x ia ib ic idd).1.net.stops.length hca, .slice hL (rpR x ia ib ic idd).1.net.lines.length hcl, .slice hT (rpR x ia ib ic idd).1.trips.length hct] 49)) = w17 at *
    have hs16 := hb.size
    have hq : Below w0.heap.size w16 w17 := hb.mono (by omega)
    replace HB := Lib.hid (HB.out.trans (hq.mono hw0))
    replace xHh1 := Lib.hid (xHh1.out.at_below hq)
    replace xHh2 := Lib.hid (xHh2.out.at_below hq)
    replace xHh3 := Lib.hid (xHh3.out.at_below hq)
    replace xHC := Lib.hid (xHC.out.below hq xlt)
    replace wH := Lib.hid (wH.out.new_call hb (by omega))
    replace wB := Lib.hid (wB.out.below hb (by omega))
    replace gB := Lib.hid (gB.out.below hb (by omega))
    replace gM := Lib.hid (gM.out.new_call hb (by omega))
    replace yHi1 := Lib.hid (yHi1.out.new_call hb (by omega))
    replace yHi2 := Lib.hid (yHi2.out.new_call hb (by omega))
    replace yHi3 := Lib.hid (yHi3.out.new_call hb (by omega))
    replace hH := Lib.hid (hH.out.new_call hb (by omega))
    clear hq
    clear hb
    clear cb0_0 cb0_1 cb0_2
    clear cl0
    obtain ⟨cb0_0, cb0_1, cb0_2⟩ := hB.out
    have cl0 : w16.heap.size < w17.heap.size := by omega
    obtain ⟨cb1_0, cb1_1, cb1_2⟩ := wB.out
    have cl1 : w3.heap.size < w17.heap.size := by omega
    go_wp2_with fail
    refine (eqTimetable_same (rpR x ia ib ic idd).1 _ _ _ _ _ _ _ _ _ _ _ _ _ (hH.out.to_below (by omega)).s (hH.out.to_below (by omega)).l (hH.out.to_below (by omega)).t (wH.out.to_below (by omega)).s (wH.out.to_below (by omega)).l (wH.out.to_below (by omega)).t rf).mono ?_
    rintro e w18 ⟨rfl, hb⟩
    have hs17 := hb.size
    have hq : Below w0.heap.size w17 w18 := hb.mono (by omega)
    replace HB := Lib.hid (HB.out.trans (hq.mono hw0))
    replace xHh1 := Lib.hid (xHh1.out.at_below hq)
    replace xHh2 := Lib.hid (xHh2.out.at_below hq)
    replace xHh3 := Lib.hid (xHh3.out.at_below hq)
    replace xHC := Lib.hid (xHC.out.below hq xlt)
    replace wH := Lib.hid (wH.out.new_call hb (by omega))
    replace wB := Lib.hid (wB.out.below hb (by omega))
    replace gB := Lib.hid (gB.out.below hb (by omega))
    replace gM := Lib.hid (gM.out.new_call hb (by omega))
    replace yHi1 := Lib.hid (yHi1.out.new_call hb (by omega))
    replace yHi2 := Lib.hid (yHi2.out.new_call hb (by omega))
    replace yHi3 := Lib.hid (yHi3.out.new_call hb (by omega))
    replace hH := Lib.hid (hH.out.new_call hb (by omega))
    replace hB := Lib.hid (hB.out.below hb (by omega))
    clear hq
    clear hb
    clear cb0_0 cb0_1 cb0_2
    clear cl0
    clear cb1_0 cb1_1 cb1_2
    clear cl1
    obtain ⟨cb0_0, cb0_1, cb0_2⟩ := gB.out
    have cl0 : w7.heap.size < w18.heap.size := by omega
    go_wp2_with fail
    have hhd := heldTimetable_res (rpR x ia ib ic idd).1 gA gL gT gca gcl gct 1 _ (gM.out.to_below (by omega)) rn (by omega) (by omega)
    push_cast at hhd
    refine hhd.mono ?_
    rintro e w19 ⟨rfl, hb⟩
    clear hhd
    have hs18 := hb.size
    have hq : Below w0.heap.size w18 w19 := hb.mono (by omega)
    replace HB := Lib.hid (HB.out.trans (hq.mono hw0))
    replace xHh1 := Lib.hid (xHh1.out.at_below hq)
    replace xHh2 := Lib.hid (xHh2.out.at_below hq)
    replace xHh3 := Lib.hid (xHh3.out.at_below hq)
    replace xHC := Lib.hid (xHC.out.below hq xlt)
    replace wH := Lib.hid (wH.out.new_call hb (by omega))
    replace wB := Lib.hid (wB.out.below hb (by omega))
    replace gB := Lib.hid (gB.out.below hb (by omega))
    replace gM := Lib.hid (gM.out.new_call hb (by omega))
    replace yHi1 := Lib.hid (yHi1.out.new_call hb (by omega))
    replace yHi2 := Lib.hid (yHi2.out.new_call hb (by omega))
    replace yHi3 := Lib.hid (yHi3.out.new_call hb (by omega))
    replace hH := Lib.hid (hH.out.new_call hb (by omega))
    replace hB := Lib.hid (hB.out.below hb (by omega))
    clear hq
    clear hb
    clear cb0_0 cb0_1 cb0_2
    clear cl0
    go_wp2_with fail
    go_ret
    exact ⟨rfl, HB.out⟩

end Go.Proofs.Ytambgommeannnaa
