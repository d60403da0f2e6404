/- The walk of the law of SameText. -/
import Derived.Test.YtdiffepokiabkaaDoorSmt
import Derived.Test.YtdiffepokiabkaaDoorTtm
import Derived.Test.YtdiffepokiabkaaDoorRet
namespace Go.Proofs.YtdiffepokiabkaaDoor
open Go.ChangeShapes Go.WideShapes Go.ChangeAt Go.RowKit Go.PlainAid
set_option linter.unusedVariables false
set_option linter.unusedSimpArgs false

set_option maxRecDepth 100000 in
set_option maxHeartbeats 4000000 in
theorem fnSameText_walk (vx : Value) (x : TTD) (vy : Value) (y : TTD) (w : World) (HT : Pow10 w) (hx : LTt w vx x) (hy : LTt w vy y) :
    Calls Tryd.prog 7 #[vx, vy] w fun e w' => e = .returned (.bool true) ∧ Below w.heap.size w w' := by
  have HTH := Lib.hid HT
  clear HT
  obtain ⟨xA, xca, xL, xcl, xT, xct, rfl, xh1, xh2, xh3, xl1, xl2, xl3, xl4, xl5⟩ := hx
  obtain ⟨yA, yca, yL, ycl, yT, yct, rfl, yh1, yh2, yh3, yl1, yl2, yl3, yl4, yl5⟩ := hy
  have hb0 : Below w.heap.size w ((w.alloc (.cells #[.slice xA x.net.stops.length xca, .slice xL x.net.lines.length xcl, .slice xT x.trips.length xct] 53)).alloc (.cells #[.slice yA y.net.stops.length yca, .slice yL y.net.lines.length ycl, .slice yT y.trips.length yct] 53)) := by go_grown
  have xHh1 := Lib.hid (xh1.call hb0)
  have xHh2 := Lib.hid (xh2.call hb0)
  have xHh3 := Lib.hid (xh3.call hb0)
  have yHh1 := Lib.hid (yh1.call hb0)
  have yHh2 := Lib.hid (yh2.call hb0)
  have yHh3 := Lib.hid (yh3.call hb0)
  clear xh1 xh2 xh3 yh1 yh2 yh3
  have xHC : Hid (Tt3 ((w.alloc (.cells #[.slice xA x.net.stops.length xca, .slice xL x.net.lines.length xcl, .slice xT x.trips.length xct] 53)).alloc (.cells #[.slice yA y.net.stops.length yca, .slice yL y.net.lines.length ycl, .slice yT y.trips.length yct] 53)) w.heap.size x xA xca xL xcl xT xct) := Lib.hid (by refine ⟨?_, ?_, ?_⟩ <;> go_simp)
  have xlt : w.heap.size < ((w.alloc (.cells #[.slice xA x.net.stops.length xca, .slice xL x.net.lines.length xcl, .slice xT x.trips.length xct] 53)).alloc (.cells #[.slice yA y.net.stops.length yca, .slice yL y.net.lines.length ycl, .slice yT y.trips.length yct] 53)).heap.size := by simp <;> omega
  have yHC : Hid (Tt3 ((w.alloc (.cells #[.slice xA x.net.stops.length xca, .slice xL x.net.lines.length xcl, .slice xT x.trips.length xct] 53)).alloc (.cells #[.slice yA y.net.stops.length yca, .slice yL y.net.lines.length ycl, .slice yT y.trips.length yct] 53)) (w.heap.size + 1) y yA yca yL ycl yT yct) := Lib.hid (by refine ⟨?_, ?_, ?_⟩ <;> go_simp)
  have ylt : (w.heap.size + 1) < ((w.alloc (.cells #[.slice xA x.net.stops.length xca, .slice xL x.net.lines.length xcl, .slice xT x.trips.length xct] 53)).alloc (.cells #[.slice yA y.net.stops.length yca, .slice yL y.net.lines.length ycl, .slice yT y.trips.length yct] 53)).heap.size := by simp <;> omega
  have HB0 := Lib.hid hb0
  clear hb0
  by_cases xhz : szI (szTT x) 1048576 < 0
  · skip
    go_enter Tryd.func7, Tryd.ntmps7
    go_wp2_with fail
    generalize ((w.alloc (.cells #[.slice xA x.net.stops.length xca, .slice xL x.net.lines.length xcl, .slice xT x.trips.length xct] 53)).alloc (.cells #[.slice yA y.net.stops.length yca, .slice yL y.net.lines.length ycl, .slice yT y.trips.length yct] 53)) = w0 at *
    obtain ⟨cb0_0, cb0_1, cb0_2⟩ := xHC.out.below (Below.refl w0.heap.size w0) xlt
    obtain ⟨cb1_0, cb1_1, cb1_2⟩ := yHC.out.below (Below.refl w0.heap.size w0) ylt
    have cl0 : w.heap.size < w0.heap.size := by have := xlt; have := (Below.refl w0.heap.size w0).size; omega
    have cl1 : (w.heap.size + 1) < w0.heap.size := by have := ylt; have := (Below.refl w0.heap.size w0).size; omega
    go_wp2_with fail
    refine (szTimetable_any x _ _ _ _ _ _ _ _ (xHh1.out.call (Below.refl w0.heap.size w0)) (xHh2.out.call (Below.refl w0.heap.size w0)) (by omega) (by omega) xl1 xl2 xl3 xl4 xl5).mono ?_
    rintro e w1 ⟨rfl, hb0⟩
    have Hb0 := Lib.hid hb0
    have hs0 := hb0.size
    clear hb0
    clear cb0_0 cb0_1 cb0_2
    clear cb1_0 cb1_1 cb1_2
    clear cl0
    clear cl1
    obtain ⟨cb0_0, cb0_1, cb0_2⟩ := xHC.out.below Hb0.out xlt
    obtain ⟨cb1_0, cb1_1, cb1_2⟩ := yHC.out.below Hb0.out ylt
    have cl0 : w.heap.size < w1.heap.size := by have := xlt; have := Hb0.out.size; omega
    have cl1 : (w.heap.size + 1) < w1.heap.size := by have := ylt; have := Hb0.out.size; omega
    go_wp2_with fail
    go_ret
    exact ⟨rfl, (bel_of HB0.out (by have := HB0.out.size; omega) Hb0.out)⟩
  have xhn := szNet_le xhz (by omega)
  have xf := fitsT_le xhn
  have xle : szI (szTT x) 1048576 ≤ 1048576 := szI_le (by omega)
  by_cases yhz : szI (szTT y) (szI (szTT x) 1048576) < 0
  · skip
    go_enter Tryd.func7, Tryd.ntmps7
    go_wp2_with fail
    generalize ((w.alloc (.cells #[.slice xA x.net.stops.length xca, .slice xL x.net.lines.length xcl, .slice xT x.trips.length xct] 53)).alloc (.cells #[.slice yA y.net.stops.length yca, .slice yL y.net.lines.length ycl, .slice yT y.trips.length yct] 53)) = w0 at *
    obtain ⟨cb0_0, cb0_1, cb0_2⟩ := xHC.out.below (Below.refl w0.heap.size w0) xlt
    obtain ⟨cb1_0, cb1_1, cb1_2⟩ := yHC.out.below (Below.refl w0.heap.size w0) ylt
    have cl0 : w.heap.size < w0.heap.size := by have := xlt; have := (Below.refl w0.heap.size w0).size; omega
    have cl1 : (w.heap.size + 1) < w0.heap.size := by have := ylt; have := (Below.refl w0.heap.size w0).size; omega
    go_wp2_with fail
    refine (szTimetable_any x _ _ _ _ _ _ _ _ (xHh1.out.call (Below.refl w0.heap.size w0)) (xHh2.out.call (Below.refl w0.heap.size w0)) (by omega) (by omega) xl1 xl2 xl3 xl4 xl5).mono ?_
    rintro e w1 ⟨rfl, hb0⟩
    have Hb0 := Lib.hid hb0
    have hs0 := hb0.size
    clear hb0
    clear cb0_0 cb0_1 cb0_2
    clear cb1_0 cb1_1 cb1_2
    clear cl0
    clear cl1
    obtain ⟨cb0_0, cb0_1, cb0_2⟩ := xHC.out.below Hb0.out xlt
    obtain ⟨cb1_0, cb1_1, cb1_2⟩ := yHC.out.below Hb0.out ylt
    have cl0 : w.heap.size < w1.heap.size := by have := xlt; have := Hb0.out.size; omega
    have cl1 : (w.heap.size + 1) < w1.heap.size := by have := ylt; have := Hb0.out.size; omega
    go_wp2_with fail
    refine (szTimetable_any y _ _ _ _ _ _ _ _ (yHh1.out.call Hb0.out) (yHh2.out.call Hb0.out) (by omega) (by omega) yl1 yl2 yl3 yl4 yl5).mono ?_
    rintro e w2 ⟨rfl, hb1⟩
    have Hb1 := Lib.hid hb1
    have hs1 := hb1.size
    clear hb1
    clear cb0_0 cb0_1 cb0_2
    clear cb1_0 cb1_1 cb1_2
    clear cl0
    clear cl1
    obtain ⟨cb0_0, cb0_1, cb0_2⟩ := xHC.out.below (bel_call Hb0.out Hb1.out) xlt
    obtain ⟨cb1_0, cb1_1, cb1_2⟩ := yHC.out.below (bel_call Hb0.out Hb1.out) ylt
    have cl0 : w.heap.size < w2.heap.size := by have := xlt; have := (bel_call Hb0.out Hb1.out).size; omega
    have cl1 : (w.heap.size + 1) < w2.heap.size := by have := ylt; have := (bel_call Hb0.out Hb1.out).size; omega
    go_wp2_with fail
    go_ret
    exact ⟨rfl, (bel_of HB0.out (by have := HB0.out.size; omega) (bel_call Hb0.out Hb1.out))⟩
  have yhn := szNet_le yhz (by omega)
  have yf := fitsT_le yhn
  have yle : szI (szTT y) (szI (szTT x) 1048576) ≤ 1048576 := szI_le (by omega)
  go_enter Tryd.func7, Tryd.ntmps7
  go_wp2_with fail
  generalize ((w.alloc (.cells #[.slice xA x.net.stops.length xca, .slice xL x.net.lines.length xcl, .slice xT x.trips.length xct] 53)).alloc (.cells #[.slice yA y.net.stops.length yca, .slice yL y.net.lines.length ycl, .slice yT y.trips.length yct] 53)) = w0 at *
  obtain ⟨cb0_0, cb0_1, cb0_2⟩ := xHC.out.below (Below.refl w0.heap.size w0) xlt
  obtain ⟨cb1_0, cb1_1, cb1_2⟩ := yHC.out.below (Below.refl w0.heap.size w0) ylt
  have cl0 : w.heap.size < w0.heap.size := by have := xlt; have := (Below.refl w0.heap.size w0).size; omega
  have cl1 : (w.heap.size + 1) < w0.heap.size := by have := ylt; have := (Below.refl w0.heap.size w0).size; omega
  go_wp2_with fail
  refine (szTimetable_any x _ _ _ _ _ _ _ _ (xHh1.out.call (Below.refl w0.heap.size w0)) (xHh2.out.call (Below.refl w0.heap.size w0)) (by omega) (by omega) xl1 xl2 xl3 xl4 xl5).mono ?_
  rintro e w1 ⟨rfl, hb0⟩
  have Hb0 := Lib.hid hb0
  have hs0 := hb0.size
  clear hb0
  clear cb0_0 cb0_1 cb0_2
  clear cb1_0 cb1_1 cb1_2
  clear cl0
  clear cl1
  obtain ⟨cb0_0, cb0_1, cb0_2⟩ := xHC.out.below Hb0.out xlt
  obtain ⟨cb1_0, cb1_1, cb1_2⟩ := yHC.out.below Hb0.out ylt
  have cl0 : w.heap.size < w1.heap.size := by have := xlt; have := Hb0.out.size; omega
  have cl1 : (w.heap.size + 1) < w1.heap.size := by have := ylt; have := Hb0.out.size; omega
  go_wp2_with fail
  refine (szTimetable_any y _ _ _ _ _ _ _ _ (yHh1.out.call Hb0.out) (yHh2.out.call Hb0.out) (by omega) (by omega) yl1 yl2 yl3 yl4 yl5).mono ?_
  rintro e w2 ⟨rfl, hb1⟩
  have Hb1 := Lib.hid hb1
  have hs1 := hb1.size
  clear hb1
  clear cb0_0 cb0_1 cb0_2
  clear cb1_0 cb1_1 cb1_2
  clear cl0
  clear cl1
  obtain ⟨cb0_0, cb0_1, cb0_2⟩ := xHC.out.below (bel_call Hb0.out Hb1.out) xlt
  obtain ⟨cb1_0, cb1_1, cb1_2⟩ := yHC.out.below (bel_call Hb0.out Hb1.out) ylt
  have cl0 : w.heap.size < w2.heap.size := by have := xlt; have := (bel_call Hb0.out Hb1.out).size; omega
  have cl1 : (w.heap.size + 1) < w2.heap.size := by have := ylt; have := (bel_call Hb0.out Hb1.out).size; omega
  clear xl1 xl2 xl3 xl4 xl5 yl1 yl2 yl3 yl4 yl5
  go_wp2_with fail
  clear cb0_0 cb0_1 cb0_2
  clear cb1_0 cb1_1 cb1_2
  clear cl0
  clear cl1
  have hC0 : ∀ w', Below w2.heap.size w2 w' → Tt3 w' w.heap.size x xA xca xL xcl xT xct := fun w' hb => xHC.out.below (bel_call (bel_call Hb0.out Hb1.out) hb) xlt
  unfold Tt3 at hC0
  have hC1 : ∀ w', Below w2.heap.size w2 w' → Tt3 w' (w.heap.size + 1) y yA yca yL ycl yT yct := fun w' hb => yHC.out.below (bel_call (bel_call Hb0.out Hb1.out) hb) ylt
  unfold Tt3 at hC1
  go_region_held3 (fun w' => Below w2.heap.size w2 w') (repeat' first | assumption | exact Nat.le_refl _ | exact Below.refl _ _ | (refine bel_drew ?_) | (refine bel_alloc ?_ _) | (refine bel_set ?_ ?_ _))
    (first
      | (go_at_call 25; (with_reducible refine (toTimetable_new x _ _ _ _ _ _ _ (xHh1.out.call (bel_call (bel_call Hb0.out Hb1.out) ‹Below w2.heap.size w2 _›)) (xHh2.out.call (bel_call (bel_call Hb0.out Hb1.out) ‹Below w2.heap.size w2 _›)) (xHh3.out.call (bel_call (bel_call Hb0.out Hb1.out) ‹Below w2.heap.size w2 _›)) xf).mono ?_); rintro e wp ⟨xsg, xsh, xsk, rfl, xsi1, xsi2, xsi3, hb5⟩; have hB5 := bel_call ‹Below w2.heap.size w2 _› hb5; have xsHi1 := Lib.hid (xsi1.to_below (Nat.le_refl _)); have xsHi2 := Lib.hid (xsi2.to_below (Nat.le_refl _)); have xsHi3 := Lib.hid (xsi3.to_below (Nat.le_refl _)); clear xsi1 xsi2 xsi3 hb5)
      | (go_at_call 25; (with_reducible refine (toTimetable_new y _ _ _ _ _ _ _ (yHh1.out.call (bel_call (bel_call Hb0.out Hb1.out) ‹Below w2.heap.size w2 _›)) (yHh2.out.call (bel_call (bel_call Hb0.out Hb1.out) ‹Below w2.heap.size w2 _›)) (yHh3.out.call (bel_call (bel_call Hb0.out Hb1.out) ‹Below w2.heap.size w2 _›)) yf).mono ?_); rintro e wp ⟨ysg, ysh, ysk, rfl, ysi1, ysi2, ysi3, hb5⟩; have hB5 := bel_call ‹Below w2.heap.size w2 _› hb5; have xsHi1n := Lib.hid (xsHi1.out.call hb5); have xsHi2n := Lib.hid (xsHi2.out.call hb5); have xsHi3n := Lib.hid (xsHi3.out.call hb5); have ysHi1 := Lib.hid (ysi1.to_below (Nat.le_refl _)); have ysHi2 := Lib.hid (ysi2.to_below (Nat.le_refl _)); have ysHi3 := Lib.hid (ysi3.to_below (Nat.le_refl _)); clear ysi1 ysi2 ysi3 hb5)
      | (go_at_call 27; refine (specSameText_any x y _ _ _ _ _ _ _ _ _ _ _ _ _ xsHi1n.out xsHi2n.out xsHi3n.out xf ysHi1.out ysHi2.out ysHi3.out yf).mono ?_; rintro e wz ⟨rfl, hb6⟩; have hB6 := bel_call ‹Below w2.heap.size w2 wp› hb6; clear hb6))
  all_goals
    clear hC0 hC1
    have Hb2 := Lib.hid hB6
    have hs2 := hB6.size
    clear hB6
    generalize wz = w3 at *
    obtain ⟨cb0_0, cb0_1, cb0_2⟩ := xHC.out.below (bel_call (bel_call Hb0.out Hb1.out) Hb2.out) xlt
    obtain ⟨cb1_0, cb1_1, cb1_2⟩ := yHC.out.below (bel_call (bel_call Hb0.out Hb1.out) Hb2.out) ylt
    have cl0 : w.heap.size < w3.heap.size := by have := xlt; have := (bel_call (bel_call Hb0.out Hb1.out) Hb2.out).size; omega
    have cl1 : (w.heap.size + 1) < w3.heap.size := by have := ylt; have := (bel_call (bel_call Hb0.out Hb1.out) Hb2.out).size; omega
    go_wp2_with fail
    refine (toTimetable_new x _ _ _ _ _ _ _ (xHh1.out.call (bel_call (bel_call Hb0.out Hb1.out) Hb2.out)) (xHh2.out.call (bel_call (bel_call Hb0.out Hb1.out) Hb2.out)) (xHh3.out.call (bel_call (bel_call Hb0.out Hb1.out) Hb2.out)) xf).mono ?_
    rintro e w4 ⟨xxg, xxh, xxk, rfl, xxi1, xxi2, xxi3, hb3⟩
    have Hb3 := Lib.hid hb3
    have hs3 := hb3.size
    have xxHi1 := Lib.hid xxi1
    have xxHi2 := Lib.hid xxi2
    have xxHi3 := Lib.hid xxi3
    clear xxi1 xxi2 xxi3
    clear hb3
    clear cb0_0 cb0_1 cb0_2
    clear cb1_0 cb1_1 cb1_2
    clear cl0
    clear cl1
    obtain ⟨cb0_0, cb0_1, cb0_2⟩ := xHC.out.below (bel_call (bel_call (bel_call Hb0.out Hb1.out) Hb2.out) Hb3.out) xlt
    obtain ⟨cb1_0, cb1_1, cb1_2⟩ := yHC.out.below (bel_call (bel_call (bel_call Hb0.out Hb1.out) Hb2.out) Hb3.out) ylt
    have cl0 : w.heap.size < w4.heap.size := by have := xlt; have := (bel_call (bel_call (bel_call Hb0.out Hb1.out) Hb2.out) Hb3.out).size; omega
    have cl1 : (w.heap.size + 1) < w4.heap.size := by have := ylt; have := (bel_call (bel_call (bel_call Hb0.out Hb1.out) Hb2.out) Hb3.out).size; omega
    go_wp2_with fail
    have hb4 : Below w4.heap.size w4 (w4.alloc (.cells #[.slice (some ⟨xxg, 0, none⟩) x.net.stops.length x.net.stops.length, .slice (some ⟨xxh, 0, none⟩) x.net.lines.length x.net.lines.length, .slice (some ⟨xxk, 0, none⟩) x.trips.length x.trips.length] 33)) := by go_grown
    have Hb4 := Lib.hid hb4
    have hs4 := hb4.size
    have xxHC : Hid (Tt3 (w4.alloc (.cells #[.slice (some ⟨xxg, 0, none⟩) x.net.stops.length x.net.stops.length, .slice (some ⟨xxh, 0, none⟩) x.net.lines.length x.net.lines.length, .slice (some ⟨xxk, 0, none⟩) x.trips.length x.trips.length] 33)) w4.heap.size x (some ⟨xxg, 0, none⟩) x.net.stops.length (some ⟨xxh, 0, none⟩) x.net.lines.length (some ⟨xxk, 0, none⟩) x.trips.length) := Lib.hid (by refine ⟨?_, ?_, ?_⟩ <;> go_simp)
    have xxlt : w4.heap.size < (w4.alloc (.cells #[.slice (some ⟨xxg, 0, none⟩) x.net.stops.length x.net.stops.length, .slice (some ⟨xxh, 0, none⟩) x.net.lines.length x.net.lines.length, .slice (some ⟨xxk, 0, none⟩) x.trips.length x.trips.length] 33)).heap.size := by simp
    clear hb4
    generalize (w4.alloc (.cells #[.slice (some ⟨xxg, 0, none⟩) x.net.stops.length x.net.stops.length, .slice (some ⟨xxh, 0, none⟩) x.net.lines.length x.net.lines.length, .slice (some ⟨xxk, 0, none⟩) x.trips.length x.trips.length] 33)) = w5 at *
    clear cb0_0 cb0_1 cb0_2
    clear cb1_0 cb1_1 cb1_2
    clear cl0
    clear cl1
    obtain ⟨cb0_0, cb0_1, cb0_2⟩ := xHC.out.below (bel_call (bel_call (bel_call (bel_call Hb0.out Hb1.out) Hb2.out) Hb3.out) Hb4.out) xlt
    obtain ⟨cb1_0, cb1_1, cb1_2⟩ := yHC.out.below (bel_call (bel_call (bel_call (bel_call Hb0.out Hb1.out) Hb2.out) Hb3.out) Hb4.out) ylt
    obtain ⟨cb2_0, cb2_1, cb2_2⟩ := xxHC.out.below (Below.refl w5.heap.size w5) xxlt
    have cl0 : w.heap.size < w5.heap.size := by have := xlt; have := (bel_call (bel_call (bel_call (bel_call Hb0.out Hb1.out) Hb2.out) Hb3.out) Hb4.out).size; omega
    have cl1 : (w.heap.size + 1) < w5.heap.size := by have := ylt; have := (bel_call (bel_call (bel_call (bel_call Hb0.out Hb1.out) Hb2.out) Hb3.out) Hb4.out).size; omega
    have cm0 : w4.heap.size < w5.heap.size := by have := xxlt; have := (Below.refl w5.heap.size w5).size; omega
    go_wp2_with fail
    refine (toTimetable_new y _ _ _ _ _ _ _ (yHh1.out.call (bel_call (bel_call (bel_call (bel_call Hb0.out Hb1.out) Hb2.out) Hb3.out) Hb4.out)) (yHh2.out.call (bel_call (bel_call (bel_call (bel_call Hb0.out Hb1.out) Hb2.out) Hb3.out) Hb4.out)) (yHh3.out.call (bel_call (bel_call (bel_call (bel_call Hb0.out Hb1.out) Hb2.out) Hb3.out) Hb4.out)) yf).mono ?_
    rintro e w6 ⟨yxg, yxh, yxk, rfl, yxi1, yxi2, yxi3, hb5⟩
    have Hb5 := Lib.hid hb5
    have hs5 := hb5.size
    have yxHi1 := Lib.hid yxi1
    have yxHi2 := Lib.hid yxi2
    have yxHi3 := Lib.hid yxi3
    clear yxi1 yxi2 yxi3
    clear hb5
    clear cb0_0 cb0_1 cb0_2
    clear cb1_0 cb1_1 cb1_2
    clear cb2_0 cb2_1 cb2_2
    clear cl0
    clear cl1
    clear cm0
    obtain ⟨cb0_0, cb0_1, cb0_2⟩ := xHC.out.below (bel_call (bel_call (bel_call (bel_call (bel_call Hb0.out Hb1.out) Hb2.out) Hb3.out) Hb4.out) Hb5.out) xlt
    obtain ⟨cb1_0, cb1_1, cb1_2⟩ := yHC.out.below (bel_call (bel_call (bel_call (bel_call (bel_call Hb0.out Hb1.out) Hb2.out) Hb3.out) Hb4.out) Hb5.out) ylt
    obtain ⟨cb2_0, cb2_1, cb2_2⟩ := xxHC.out.below Hb5.out xxlt
    have cl0 : w.heap.size < w6.heap.size := by have := xlt; have := (bel_call (bel_call (bel_call (bel_call (bel_call Hb0.out Hb1.out) Hb2.out) Hb3.out) Hb4.out) Hb5.out).size; omega
    have cl1 : (w.heap.size + 1) < w6.heap.size := by have := ylt; have := (bel_call (bel_call (bel_call (bel_call (bel_call Hb0.out Hb1.out) Hb2.out) Hb3.out) Hb4.out) Hb5.out).size; omega
    have cm0 : w4.heap.size < w6.heap.size := by have := xxlt; have := Hb5.out.size; omega
    go_wp2_with fail
    have hb6 : Below w6.heap.size w6 (w6.alloc (.cells #[.slice (some ⟨yxg, 0, none⟩) y.net.stops.length y.net.stops.length, .slice (some ⟨yxh, 0, none⟩) y.net.lines.length y.net.lines.length, .slice (some ⟨yxk, 0, none⟩) y.trips.length y.trips.length] 33)) := by go_grown
    have Hb6 := Lib.hid hb6
    have hs6 := hb6.size
    have yxHC : Hid (Tt3 (w6.alloc (.cells #[.slice (some ⟨yxg, 0, none⟩) y.net.stops.length y.net.stops.length, .slice (some ⟨yxh, 0, none⟩) y.net.lines.length y.net.lines.length, .slice (some ⟨yxk, 0, none⟩) y.trips.length y.trips.length] 33)) w6.heap.size y (some ⟨yxg, 0, none⟩) y.net.stops.length (some ⟨yxh, 0, none⟩) y.net.lines.length (some ⟨yxk, 0, none⟩) y.trips.length) := Lib.hid (by refine ⟨?_, ?_, ?_⟩ <;> go_simp)
    have yxlt : w6.heap.size < (w6.alloc (.cells #[.slice (some ⟨yxg, 0, none⟩) y.net.stops.length y.net.stops.length, .slice (some ⟨yxh, 0, none⟩) y.net.lines.length y.net.lines.length, .slice (some ⟨yxk, 0, none⟩) y.trips.length y.trips.length] 33)).heap.size := by simp
    clear hb6
    generalize (w6.alloc (.cells #[.slice (some ⟨yxg, 0, none⟩) y.net.stops.length y.net.stops.length, .slice (some ⟨yxh, 0, none⟩) y.net.lines.length y.net.lines.length, .slice (some ⟨yxk, 0, none⟩) y.trips.length y.trips.length] 33)) = w7 at *
    clear cb0_0 cb0_1 cb0_2
    clear cb1_0 cb1_1 cb1_2
    clear cb2_0 cb2_1 cb2_2
    clear cl0
    clear cl1
    clear cm0
    obtain ⟨cb0_0, cb0_1, cb0_2⟩ := xHC.out.below (bel_call (bel_call (bel_call (bel_call (bel_call (bel_call Hb0.out Hb1.out) Hb2.out) Hb3.out) Hb4.out) Hb5.out) Hb6.out) xlt
    obtain ⟨cb1_0, cb1_1, cb1_2⟩ := yHC.out.below (bel_call (bel_call (bel_call (bel_call (bel_call (bel_call Hb0.out Hb1.out) Hb2.out) Hb3.out) Hb4.out) Hb5.out) Hb6.out) ylt
    obtain ⟨cb2_0, cb2_1, cb2_2⟩ := xxHC.out.below (bel_call Hb5.out Hb6.out) xxlt
    obtain ⟨cb3_0, cb3_1, cb3_2⟩ := yxHC.out.below (Below.refl w7.heap.size w7) yxlt
    have cl0 : w.heap.size < w7.heap.size := by have := xlt; have := (bel_call (bel_call (bel_call (bel_call (bel_call (bel_call Hb0.out Hb1.out) Hb2.out) Hb3.out) Hb4.out) Hb5.out) Hb6.out).size; omega
    have cl1 : (w.heap.size + 1) < w7.heap.size := by have := ylt; have := (bel_call (bel_call (bel_call (bel_call (bel_call (bel_call Hb0.out Hb1.out) Hb2.out) Hb3.out) Hb4.out) Hb5.out) Hb6.out).size; omega
    have cm0 : w4.heap.size < w7.heap.size := by have := xxlt; have := (bel_call Hb5.out Hb6.out).size; omega
    have cm1 : w6.heap.size < w7.heap.size := by have := yxlt; have := (Below.refl w7.heap.size w7).size; omega
    go_wp2_with fail
    refine (implSameText_any x y _ _ _ _ _ _ _ _ _ _ _ _ _ ((xxHi1.out.new_call (bel_call (bel_call Hb4.out Hb5.out) Hb6.out) (Nat.le_refl _)).to_below (by have := (bel_call (bel_call Hb4.out Hb5.out) Hb6.out).size; omega)) ((xxHi2.out.new_call (bel_call (bel_call Hb4.out Hb5.out) Hb6.out) (Nat.le_refl _)).to_below (by have := (bel_call (bel_call Hb4.out Hb5.out) Hb6.out).size; omega)) ((xxHi3.out.new_call (bel_call (bel_call Hb4.out Hb5.out) Hb6.out) (Nat.le_refl _)).to_below (by have := (bel_call (bel_call Hb4.out Hb5.out) Hb6.out).size; omega)) xf ((yxHi1.out.new_call Hb6.out (Nat.le_refl _)).to_below (by have := Hb6.out.size; omega)) ((yxHi2.out.new_call Hb6.out (Nat.le_refl _)).to_below (by have := Hb6.out.size; omega)) ((yxHi3.out.new_call Hb6.out (Nat.le_refl _)).to_below (by have := Hb6.out.size; omega)) yf (HTH.out.call (bel_of HB0.out (by have := HB0.out.size; omega) (bel_call (bel_call (bel_call (bel_call (bel_call (bel_call Hb0.out Hb1.out) Hb2.out) Hb3.out) Hb4.out) Hb5.out) Hb6.out)))).mono ?_
    rintro e w8 ⟨rfl, hb7⟩
    have Hb7 := Lib.hid hb7
    have hs7 := hb7.size
    clear hb7
    clear cb0_0 cb0_1 cb0_2
    clear cb1_0 cb1_1 cb1_2
    clear cb2_0 cb2_1 cb2_2
    clear cb3_0 cb3_1 cb3_2
    clear cl0
    clear cl1
    clear cm0
    clear cm1
    obtain ⟨cb0_0, cb0_1, cb0_2⟩ := xHC.out.below (bel_call (bel_call (bel_call (bel_call (bel_call (bel_call (bel_call Hb0.out Hb1.out) Hb2.out) Hb3.out) Hb4.out) Hb5.out) Hb6.out) Hb7.out) xlt
    obtain ⟨cb1_0, cb1_1, cb1_2⟩ := yHC.out.below (bel_call (bel_call (bel_call (bel_call (bel_call (bel_call (bel_call Hb0.out Hb1.out) Hb2.out) Hb3.out) Hb4.out) Hb5.out) Hb6.out) Hb7.out) ylt
    obtain ⟨cb2_0, cb2_1, cb2_2⟩ := xxHC.out.below (bel_call (bel_call Hb5.out Hb6.out) Hb7.out) xxlt
    obtain ⟨cb3_0, cb3_1, cb3_2⟩ := yxHC.out.below Hb7.out yxlt
    have cl0 : w.heap.size < w8.heap.size := by have := xlt; have := (bel_call (bel_call (bel_call (bel_call (bel_call (bel_call (bel_call Hb0.out Hb1.out) Hb2.out) Hb3.out) Hb4.out) Hb5.out) Hb6.out) Hb7.out).size; omega
    have cl1 : (w.heap.size + 1) < w8.heap.size := by have := ylt; have := (bel_call (bel_call (bel_call (bel_call (bel_call (bel_call (bel_call Hb0.out Hb1.out) Hb2.out) Hb3.out) Hb4.out) Hb5.out) Hb6.out) Hb7.out).size; omega
    have cm0 : w4.heap.size < w8.heap.size := by have := xxlt; have := (bel_call (bel_call Hb5.out Hb6.out) Hb7.out).size; omega
    have cm1 : w6.heap.size < w8.heap.size := by have := yxlt; have := Hb7.out.size; omega
    go_wp2_with fail
    clear cb0_0 cb0_1 cb0_2
    clear cb1_0 cb1_1 cb1_2
    clear cb2_0 cb2_1 cb2_2
    clear cb3_0 cb3_1 cb3_2
    clear cl0
    clear cl1
    clear cm0
    clear cm1
    have hC : ∀ w', Below w8.heap.size w8 w' → Tt3 w' w.heap.size x xA xca xL xcl xT xct := fun w' hb => xHC.out.below (bel_call (bel_call (bel_call (bel_call (bel_call (bel_call (bel_call (bel_call Hb0.out Hb1.out) Hb2.out) Hb3.out) Hb4.out) Hb5.out) Hb6.out) Hb7.out) hb) xlt
    have hD : ∀ w', Below w8.heap.size w8 w' → Tt3 w' w4.heap.size x (some ⟨xxg, 0, none⟩) x.net.stops.length (some ⟨xxh, 0, none⟩) x.net.lines.length (some ⟨xxk, 0, none⟩) x.trips.length := fun w' hb => xxHC.out.below (bel_call (bel_call (bel_call Hb5.out Hb6.out) Hb7.out) hb) xxlt
    unfold Tt3 at hC hD
    go_region_held3 (fun w' => Below w8.heap.size w8 w') (repeat' first | assumption | exact Nat.le_refl _ | exact Below.refl _ _ | (refine bel_drew ?_) | (refine bel_alloc ?_ _) | (refine bel_set ?_ ?_ _))
      (first
        | (go_at_call 25; refine (toTimetable_new x _ _ _ _ _ _ _ (xHh1.out.call (bel_call (bel_call (bel_call (bel_call (bel_call (bel_call (bel_call (bel_call Hb0.out Hb1.out) Hb2.out) Hb3.out) Hb4.out) Hb5.out) Hb6.out) Hb7.out) ‹Below w8.heap.size w8 _›)) (xHh2.out.call (bel_call (bel_call (bel_call (bel_call (bel_call (bel_call (bel_call (bel_call Hb0.out Hb1.out) Hb2.out) Hb3.out) Hb4.out) Hb5.out) Hb6.out) Hb7.out) ‹Below w8.heap.size w8 _›)) (xHh3.out.call (bel_call (bel_call (bel_call (bel_call (bel_call (bel_call (bel_call (bel_call Hb0.out Hb1.out) Hb2.out) Hb3.out) Hb4.out) Hb5.out) Hb6.out) Hb7.out) ‹Below w8.heap.size w8 _›)) xf).mono ?_; rintro e wp ⟨mg, mh, mk, rfl, mi1, mi2, mi3, hb5⟩; have hB5 := bel_call ‹Below w8.heap.size w8 _› hb5; have Mi1 := Lib.hid (mi1.to_below (Nat.le_refl _)); have Mi2 := Lib.hid (mi2.to_below (Nat.le_refl _)); have Mi3 := Lib.hid (mi3.to_below (Nat.le_refl _)); clear mi1 mi2 mi3 hb5)
        | (go_at_call 15; refine (eqTimetable_same x _ _ _ _ _ _ _ _ _ _ _ _ _ (((xxHi1.out.new_call (bel_call (bel_call (bel_call Hb4.out Hb5.out) Hb6.out) Hb7.out) (Nat.le_refl _)).to_below (by have := (bel_call (bel_call (bel_call Hb4.out Hb5.out) Hb6.out) Hb7.out).size; omega)).call ‹Below w8.heap.size w8 _›) (((xxHi2.out.new_call (bel_call (bel_call (bel_call Hb4.out Hb5.out) Hb6.out) Hb7.out) (Nat.le_refl _)).to_below (by have := (bel_call (bel_call (bel_call Hb4.out Hb5.out) Hb6.out) Hb7.out).size; omega)).call ‹Below w8.heap.size w8 _›) (((xxHi3.out.new_call (bel_call (bel_call (bel_call Hb4.out Hb5.out) Hb6.out) Hb7.out) (Nat.le_refl _)).to_below (by have := (bel_call (bel_call (bel_call Hb4.out Hb5.out) Hb6.out) Hb7.out).size; omega)).call ‹Below w8.heap.size w8 _›) Mi1.out Mi2.out Mi3.out xf).mono ?_; rintro e wq ⟨rfl, hb6⟩; have hB6 := bel_call ‹Below w8.heap.size w8 wp› hb6; clear hb6))
    all_goals
      clear hC hD
      have Hb8 := Lib.hid hB6
      have hs8 := hB6.size
      clear hB6 hB5
      generalize wq = w9 at *
      obtain ⟨cb0_0, cb0_1, cb0_2⟩ := xHC.out.below (bel_call (bel_call (bel_call (bel_call (bel_call (bel_call (bel_call (bel_call Hb0.out Hb1.out) Hb2.out) Hb3.out) Hb4.out) Hb5.out) Hb6.out) Hb7.out) Hb8.out) xlt
      obtain ⟨cb1_0, cb1_1, cb1_2⟩ := yHC.out.below (bel_call (bel_call (bel_call (bel_call (bel_call (bel_call (bel_call (bel_call Hb0.out Hb1.out) Hb2.out) Hb3.out) Hb4.out) Hb5.out) Hb6.out) Hb7.out) Hb8.out) ylt
      obtain ⟨cb2_0, cb2_1, cb2_2⟩ := xxHC.out.below (bel_call (bel_call (bel_call Hb5.out Hb6.out) Hb7.out) Hb8.out) xxlt
      obtain ⟨cb3_0, cb3_1, cb3_2⟩ := yxHC.out.below (bel_call Hb7.out Hb8.out) yxlt
      have cl0 : w.heap.size < w9.heap.size := by have := xlt; have := (bel_call (bel_call (bel_call (bel_call (bel_call (bel_call (bel_call (bel_call Hb0.out Hb1.out) Hb2.out) Hb3.out) Hb4.out) Hb5.out) Hb6.out) Hb7.out) Hb8.out).size; omega
      have cl1 : (w.heap.size + 1) < w9.heap.size := by have := ylt; have := (bel_call (bel_call (bel_call (bel_call (bel_call (bel_call (bel_call (bel_call Hb0.out Hb1.out) Hb2.out) Hb3.out) Hb4.out) Hb5.out) Hb6.out) Hb7.out) Hb8.out).size; omega
      have cm0 : w4.heap.size < w9.heap.size := by have := xxlt; have := (bel_call (bel_call (bel_call Hb5.out Hb6.out) Hb7.out) Hb8.out).size; omega
      have cm1 : w6.heap.size < w9.heap.size := by have := yxlt; have := (bel_call Hb7.out Hb8.out).size; omega
      go_wp2_with fail
      clear cb0_0 cb0_1 cb0_2
      clear cb1_0 cb1_1 cb1_2
      clear cb2_0 cb2_1 cb2_2
      clear cb3_0 cb3_1 cb3_2
      clear cl0
      clear cl1
      clear cm0
      clear cm1
      have hC : ∀ w', Below w9.heap.size w9 w' → Tt3 w' (w.heap.size + 1) y yA yca yL ycl yT yct := fun w' hb => yHC.out.below (bel_call (bel_call (bel_call (bel_call (bel_call (bel_call (bel_call (bel_call (bel_call Hb0.out Hb1.out) Hb2.out) Hb3.out) Hb4.out) Hb5.out) Hb6.out) Hb7.out) Hb8.out) hb) ylt
      have hD : ∀ w', Below w9.heap.size w9 w' → Tt3 w' w6.heap.size y (some ⟨yxg, 0, none⟩) y.net.stops.length (some ⟨yxh, 0, none⟩) y.net.lines.length (some ⟨yxk, 0, none⟩) y.trips.length := fun w' hb => yxHC.out.below (bel_call (bel_call Hb7.out Hb8.out) hb) yxlt
      unfold Tt3 at hC hD
      go_region_held3 (fun w' => Below w9.heap.size w9 w') (repeat' first | assumption | exact Nat.le_refl _ | exact Below.refl _ _ | (refine bel_drew ?_) | (refine bel_alloc ?_ _) | (refine bel_set ?_ ?_ _))
        (first
          | (go_at_call 25; refine (toTimetable_new y _ _ _ _ _ _ _ (yHh1.out.call (bel_call (bel_call (bel_call (bel_call (bel_call (bel_call (bel_call (bel_call (bel_call Hb0.out Hb1.out) Hb2.out) Hb3.out) Hb4.out) Hb5.out) Hb6.out) Hb7.out) Hb8.out) ‹Below w9.heap.size w9 _›)) (yHh2.out.call (bel_call (bel_call (bel_call (bel_call (bel_call (bel_call (bel_call (bel_call (bel_call Hb0.out Hb1.out) Hb2.out) Hb3.out) Hb4.out) Hb5.out) Hb6.out) Hb7.out) Hb8.out) ‹Below w9.heap.size w9 _›)) (yHh3.out.call (bel_call (bel_call (bel_call (bel_call (bel_call (bel_call (bel_call (bel_call (bel_call Hb0.out Hb1.out) Hb2.out) Hb3.out) Hb4.out) Hb5.out) Hb6.out) Hb7.out) Hb8.out) ‹Below w9.heap.size w9 _›)) yf).mono ?_; rintro e wp ⟨mg, mh, mk, rfl, mi1, mi2, mi3, hb5⟩; have hB5 := bel_call ‹Below w9.heap.size w9 _› hb5; have Mi1 := Lib.hid (mi1.to_below (Nat.le_refl _)); have Mi2 := Lib.hid (mi2.to_below (Nat.le_refl _)); have Mi3 := Lib.hid (mi3.to_below (Nat.le_refl _)); clear mi1 mi2 mi3 hb5)
          | (go_at_call 15; refine (eqTimetable_same y _ _ _ _ _ _ _ _ _ _ _ _ _ (((yxHi1.out.new_call (bel_call (bel_call Hb6.out Hb7.out) Hb8.out) (Nat.le_refl _)).to_below (by have := (bel_call (bel_call Hb6.out Hb7.out) Hb8.out).size; omega)).call ‹Below w9.heap.size w9 _›) (((yxHi2.out.new_call (bel_call (bel_call Hb6.out Hb7.out) Hb8.out) (Nat.le_refl _)).to_below (by have := (bel_call (bel_call Hb6.out Hb7.out) Hb8.out).size; omega)).call ‹Below w9.heap.size w9 _›) (((yxHi3.out.new_call (bel_call (bel_call Hb6.out Hb7.out) Hb8.out) (Nat.le_refl _)).to_below (by have := (bel_call (bel_call Hb6.out Hb7.out) Hb8.out).size; omega)).call ‹Below w9.heap.size w9 _›) Mi1.out Mi2.out Mi3.out yf).mono ?_; rintro e wq ⟨rfl, hb6⟩; have hB6 := bel_call ‹Below w9.heap.size w9 wp› hb6; clear hb6))
      all_goals
        clear hC hD
        have Hb9 := Lib.hid hB6
        have hs9 := hB6.size
        clear hB6 hB5
        generalize wq = w10 at *
        obtain ⟨cb0_0, cb0_1, cb0_2⟩ := xHC.out.below (bel_call (bel_call (bel_call (bel_call (bel_call (bel_call (bel_call (bel_call (bel_call Hb0.out Hb1.out) Hb2.out) Hb3.out) Hb4.out) Hb5.out) Hb6.out) Hb7.out) Hb8.out) Hb9.out) xlt
        obtain ⟨cb1_0, cb1_1, cb1_2⟩ := yHC.out.below (bel_call (bel_call (bel_call (bel_call (bel_call (bel_call (bel_call (bel_call (bel_call Hb0.out Hb1.out) Hb2.out) Hb3.out) Hb4.out) Hb5.out) Hb6.out) Hb7.out) Hb8.out) Hb9.out) ylt
        obtain ⟨cb2_0, cb2_1, cb2_2⟩ := xxHC.out.below (bel_call (bel_call (bel_call (bel_call Hb5.out Hb6.out) Hb7.out) Hb8.out) Hb9.out) xxlt
        obtain ⟨cb3_0, cb3_1, cb3_2⟩ := yxHC.out.below (bel_call (bel_call Hb7.out Hb8.out) Hb9.out) yxlt
        have cl0 : w.heap.size < w10.heap.size := by have := xlt; have := (bel_call (bel_call (bel_call (bel_call (bel_call (bel_call (bel_call (bel_call (bel_call Hb0.out Hb1.out) Hb2.out) Hb3.out) Hb4.out) Hb5.out) Hb6.out) Hb7.out) Hb8.out) Hb9.out).size; omega
        have cl1 : (w.heap.size + 1) < w10.heap.size := by have := ylt; have := (bel_call (bel_call (bel_call (bel_call (bel_call (bel_call (bel_call (bel_call (bel_call Hb0.out Hb1.out) Hb2.out) Hb3.out) Hb4.out) Hb5.out) Hb6.out) Hb7.out) Hb8.out) Hb9.out).size; omega
        have cm0 : w4.heap.size < w10.heap.size := by have := xxlt; have := (bel_call (bel_call (bel_call (bel_call Hb5.out Hb6.out) Hb7.out) Hb8.out) Hb9.out).size; omega
        have cm1 : w6.heap.size < w10.heap.size := by have := yxlt; have := (bel_call (bel_call Hb7.out Hb8.out) Hb9.out).size; omega
        go_wp2_with fail
        go_ret
        exact ⟨rfl, (bel_of HB0.out (by have := HB0.out.size; omega) (bel_call (bel_call (bel_call (bel_call (bel_call (bel_call (bel_call (bel_call (bel_call Hb0.out Hb1.out) Hb2.out) Hb3.out) Hb4.out) Hb5.out) Hb6.out) Hb7.out) Hb8.out) Hb9.out))⟩

end Go.Proofs.YtdiffepokiabkaaDoor
