/- The walk of the law of FormatTimetable. -/
import Derived.Test.YtdiffepokiabkaaDoorFtd
import Derived.Test.YtdiffepokiabkaaDoorTtm
import Derived.Test.YtdiffepokiabkaaDoorRet
namespace Go.Proofs.YtdiffepokiabkaaDoor
open Go.ChangeShapes Go.WideShapes Go.ChangeAt Go.RowKit Go.PlainAid
set_option linter.unusedVariables false
set_option linter.unusedSimpArgs false

set_option maxRecDepth 100000 in
set_option maxHeartbeats 4000000 in
theorem fnFormatTimetable_walk (vx : Value) (x : TTD) (w : World) (HT : Pow10 w) (hx : LTt w vx x) :
    Calls Tryd.prog 6 #[vx] w fun e w' => e = .returned (.bool true) ∧ Below w.heap.size w w' := by
  have HTH := Lib.hid HT
  clear HT
  obtain ⟨xA, xca, xL, xcl, xT, xct, rfl, xh1, xh2, xh3, xl1, xl2, xl3, xl4, xl5⟩ := hx
  have hb0 : Below w.heap.size w (w.alloc (.cells #[.slice xA x.net.stops.length xca, .slice xL x.net.lines.length xcl, .slice xT x.trips.length xct] 53)) := by go_grown
  have xHh1 := Lib.hid (xh1.call hb0)
  have xHh2 := Lib.hid (xh2.call hb0)
  have xHh3 := Lib.hid (xh3.call hb0)
  clear xh1 xh2 xh3
  have xHC : Hid (Tt3 (w.alloc (.cells #[.slice xA x.net.stops.length xca, .slice xL x.net.lines.length xcl, .slice xT x.trips.length xct] 53)) w.heap.size x xA xca xL xcl xT xct) := Lib.hid (by refine ⟨?_, ?_, ?_⟩ <;> go_simp)
  have xlt : w.heap.size < (w.alloc (.cells #[.slice xA x.net.stops.length xca, .slice xL x.net.lines.length xcl, .slice xT x.trips.length xct] 53)).heap.size := by simp <;> omega
  have HB0 := Lib.hid hb0
  clear hb0
  by_cases xhz : szI (szTT x) 1048576 < 0
  · skip
    go_enter Tryd.func6, Tryd.ntmps6
    go_wp2_with fail
    generalize (w.alloc (.cells #[.slice xA x.net.stops.length xca, .slice xL x.net.lines.length xcl, .slice xT x.trips.length xct] 53)) = w0 at *
    obtain ⟨cb0_0, cb0_1, cb0_2⟩ := xHC.out.below (Below.refl w0.heap.size w0) xlt
    go_wp2_with fail
    refine (szTimetable_any x _ _ _ _ _ _ _ _ (xHh1.out.call (Below.refl w0.heap.size w0)) (xHh2.out.call (Below.refl w0.heap.size w0)) (by omega) (by omega) xl1 xl2 xl3 xl4 xl5).mono ?_
    rintro e w1 ⟨rfl, hb0⟩
    have Hb0 := Lib.hid hb0
    have hs0 := hb0.size
    clear hb0
    clear cb0_0 cb0_1 cb0_2
    obtain ⟨cb0_0, cb0_1, cb0_2⟩ := xHC.out.below Hb0.out xlt
    go_wp2_with fail
    go_ret
    exact ⟨rfl, (bel_of HB0.out (by have := HB0.out.size; omega) Hb0.out)⟩
  have xhn := szNet_le xhz (by omega)
  have xf := fitsT_le xhn
  have xle : szI (szTT x) 1048576 ≤ 1048576 := szI_le (by omega)
  go_enter Tryd.func6, Tryd.ntmps6
  go_wp2_with fail
  generalize (w.alloc (.cells #[.slice xA x.net.stops.length xca, .slice xL x.net.lines.length xcl, .slice xT x.trips.length xct] 53)) = w0 at *
  obtain ⟨cb0_0, cb0_1, cb0_2⟩ := xHC.out.below (Below.refl w0.heap.size w0) xlt
  go_wp2_with fail
  refine (szTimetable_any x _ _ _ _ _ _ _ _ (xHh1.out.call (Below.refl w0.heap.size w0)) (xHh2.out.call (Below.refl w0.heap.size w0)) (by omega) (by omega) xl1 xl2 xl3 xl4 xl5).mono ?_
  rintro e w1 ⟨rfl, hb0⟩
  have Hb0 := Lib.hid hb0
  have hs0 := hb0.size
  clear hb0
  clear cb0_0 cb0_1 cb0_2
  obtain ⟨cb0_0, cb0_1, cb0_2⟩ := xHC.out.below Hb0.out xlt
  clear xl1 xl2 xl3 xl4 xl5
  go_wp2_with fail
  refine (toTimetable_new x _ _ _ _ _ _ _ (xHh1.out.call Hb0.out) (xHh2.out.call Hb0.out) (xHh3.out.call Hb0.out) xf).mono ?_
  rintro e w2 ⟨xsg, xsh, xsk, rfl, xsi1, xsi2, xsi3, hb1⟩
  have Hb1 := Lib.hid hb1
  have hs1 := hb1.size
  have xsHi1 := Lib.hid (xsi1.to_below (Nat.le_refl _))
  have xsHi2 := Lib.hid (xsi2.to_below (Nat.le_refl _))
  have xsHi3 := Lib.hid (xsi3.to_below (Nat.le_refl _))
  clear xsi1 xsi2 xsi3
  clear hb1
  clear cb0_0 cb0_1 cb0_2
  obtain ⟨cb0_0, cb0_1, cb0_2⟩ := xHC.out.below (bel_call Hb0.out Hb1.out) xlt
  go_wp2_with fail
  refine (specFormatTimetable_any x _ _ _ _ _ _ _ (xsHi1.out.call (Below.refl w2.heap.size w2)) (xsHi2.out.call (Below.refl w2.heap.size w2)) (xsHi3.out.call (Below.refl w2.heap.size w2)) xf).mono ?_
  rintro e w3 ⟨rfl, hb2⟩
  have Hb2 := Lib.hid hb2
  have hs2 := hb2.size
  clear hb2
  clear cb0_0 cb0_1 cb0_2
  obtain ⟨cb0_0, cb0_1, cb0_2⟩ := xHC.out.below (bel_call (bel_call Hb0.out Hb1.out) Hb2.out) xlt
  go_wp2_with fail
  refine (toTimetable_new x _ _ _ _ _ _ _ (xHh1.out.call (bel_call (bel_call Hb0.out Hb1.out) Hb2.out)) (xHh2.out.call (bel_call (bel_call Hb0.out Hb1.out) Hb2.out)) (xHh3.out.call (bel_call (bel_call Hb0.out Hb1.out) Hb2.out)) xf).mono ?_
  rintro e w4 ⟨xxg, xxh, xxk, rfl, xxi1, xxi2, xxi3, hb3⟩
  have Hb3 := Lib.hid hb3
  have hs3 := hb3.size
  have xxHi1 := Lib.hid xxi1
  have xxHi2 := Lib.hid xxi2
  have xxHi3 := Lib.hid xxi3
  clear xxi1 xxi2 xxi3
  clear hb3
  clear cb0_0 cb0_1 cb0_2
  obtain ⟨cb0_0, cb0_1, cb0_2⟩ := xHC.out.below (bel_call (bel_call (bel_call Hb0.out Hb1.out) Hb2.out) Hb3.out) xlt
  go_wp2_with fail
  have hb4 : Below w4.heap.size w4 (w4.alloc (.cells #[.slice (some ⟨xxg, 0, none⟩) x.net.stops.length x.net.stops.length, .slice (some ⟨xxh, 0, none⟩) x.net.lines.length x.net.lines.length, .slice (some ⟨xxk, 0, none⟩) x.trips.length x.trips.length] 33)) := by go_grown
  have Hb4 := Lib.hid hb4
  have hs4 := hb4.size
  have xxHC : Hid (Tt3 (w4.alloc (.cells #[.slice (some ⟨xxg, 0, none⟩) x.net.stops.length x.net.stops.length, .slice (some ⟨xxh, 0, none⟩) x.net.lines.length x.net.lines.length, .slice (some ⟨xxk, 0, none⟩) x.trips.length x.trips.length] 33)) w4.heap.size x (some ⟨xxg, 0, none⟩) x.net.stops.length (some ⟨xxh, 0, none⟩) x.net.lines.length (some ⟨xxk, 0, none⟩) x.trips.length) := Lib.hid (by refine ⟨?_, ?_, ?_⟩ <;> go_simp)
  have xxlt : w4.heap.size < (w4.alloc (.cells #[.slice (some ⟨xxg, 0, none⟩) x.net.stops.length x.net.stops.length, .slice (some ⟨xxh, 0, none⟩) x.net.lines.length x.net.lines.length, .slice (some ⟨xxk, 0, none⟩) x.trips.length x.trips.length] 33)).heap.size := by simp
  clear hb4
  generalize (w4.alloc (.cells #[.slice (some ⟨xxg, 0, none⟩) x.net.stops.length x.net.stops.length, .slice (some ⟨xxh, 0, none⟩) x.net.lines.length x.net.lines.length, .slice (some ⟨xxk, 0, none⟩) x.trips.length x.trips.length] 33)) = w5 at *
  clear cb0_0 cb0_1 cb0_2
  obtain ⟨cb0_0, cb0_1, cb0_2⟩ := xHC.out.below (bel_call (bel_call (bel_call (bel_call Hb0.out Hb1.out) Hb2.out) Hb3.out) Hb4.out) xlt
  obtain ⟨cb1_0, cb1_1, cb1_2⟩ := xxHC.out.below (Below.refl w5.heap.size w5) xxlt
  go_wp2_with fail
  refine (implFormatTimetable_any x _ _ _ _ _ _ _ ((xxHi1.out.new_call Hb4.out (Nat.le_refl _)).to_below (by have := Hb4.out.size; omega)) ((xxHi2.out.new_call Hb4.out (Nat.le_refl _)).to_below (by have := Hb4.out.size; omega)) ((xxHi3.out.new_call Hb4.out (Nat.le_refl _)).to_below (by have := Hb4.out.size; omega)) xf (HTH.out.call (bel_of HB0.out (by have := HB0.out.size; omega) (bel_call (bel_call (bel_call (bel_call Hb0.out Hb1.out) Hb2.out) Hb3.out) Hb4.out)))).mono ?_
  rintro e w6 ⟨rfl, hb5⟩
  have Hb5 := Lib.hid hb5
  have hs5 := hb5.size
  clear hb5
  clear cb0_0 cb0_1 cb0_2
  clear cb1_0 cb1_1 cb1_2
  obtain ⟨cb0_0, cb0_1, cb0_2⟩ := xHC.out.below (bel_call (bel_call (bel_call (bel_call (bel_call Hb0.out Hb1.out) Hb2.out) Hb3.out) Hb4.out) Hb5.out) xlt
  obtain ⟨cb1_0, cb1_1, cb1_2⟩ := xxHC.out.below Hb5.out xxlt
  go_wp2_with fail
  clear cb0_0 cb0_1 cb0_2
  clear cb1_0 cb1_1 cb1_2
  have hC : ∀ w', Below w6.heap.size w6 w' → Tt3 w' w.heap.size x xA xca xL xcl xT xct := fun w' hb => xHC.out.below (bel_call (bel_call (bel_call (bel_call (bel_call (bel_call Hb0.out Hb1.out) Hb2.out) Hb3.out) Hb4.out) Hb5.out) hb) xlt
  have hD : ∀ w', Below w6.heap.size w6 w' → Tt3 w' w4.heap.size x (some ⟨xxg, 0, none⟩) x.net.stops.length (some ⟨xxh, 0, none⟩) x.net.lines.length (some ⟨xxk, 0, none⟩) x.trips.length := fun w' hb => xxHC.out.below (bel_call Hb5.out hb) xxlt
  unfold Tt3 at hC hD
  go_region_held3 (fun w' => Below w6.heap.size w6 w') (repeat' first | assumption | exact Nat.le_refl _ | exact Below.refl _ _ | (refine bel_drew ?_) | (refine bel_alloc ?_ _) | (refine bel_set ?_ ?_ _))
    (first
      | (go_at_call 25; refine (toTimetable_new x _ _ _ _ _ _ _ (xHh1.out.call (bel_call (bel_call (bel_call (bel_call (bel_call (bel_call Hb0.out Hb1.out) Hb2.out) Hb3.out) Hb4.out) Hb5.out) ‹Below w6.heap.size w6 _›)) (xHh2.out.call (bel_call (bel_call (bel_call (bel_call (bel_call (bel_call Hb0.out Hb1.out) Hb2.out) Hb3.out) Hb4.out) Hb5.out) ‹Below w6.heap.size w6 _›)) (xHh3.out.call (bel_call (bel_call (bel_call (bel_call (bel_call (bel_call Hb0.out Hb1.out) Hb2.out) Hb3.out) Hb4.out) Hb5.out) ‹Below w6.heap.size w6 _›)) xf).mono ?_; rintro e wp ⟨mg, mh, mk, rfl, mi1, mi2, mi3, hb5⟩; have hB5 := bel_call ‹Below w6.heap.size w6 _› hb5; have Mi1 := Lib.hid (mi1.to_below (Nat.le_refl _)); have Mi2 := Lib.hid (mi2.to_below (Nat.le_refl _)); have Mi3 := Lib.hid (mi3.to_below (Nat.le_refl _)); clear mi1 mi2 mi3 hb5)
      | (go_at_call 15; refine (eqTimetable_same x _ _ _ _ _ _ _ _ _ _ _ _ _ (((xxHi1.out.new_call (bel_call Hb4.out Hb5.out) (Nat.le_refl _)).to_below (by have := (bel_call Hb4.out Hb5.out).size; omega)).call ‹Below w6.heap.size w6 _›) (((xxHi2.out.new_call (bel_call Hb4.out Hb5.out) (Nat.le_refl _)).to_below (by have := (bel_call Hb4.out Hb5.out).size; omega)).call ‹Below w6.heap.size w6 _›) (((xxHi3.out.new_call (bel_call Hb4.out Hb5.out) (Nat.le_refl _)).to_below (by have := (bel_call Hb4.out Hb5.out).size; omega)).call ‹Below w6.heap.size w6 _›) Mi1.out Mi2.out Mi3.out xf).mono ?_; rintro e wq ⟨rfl, hb6⟩; have hB6 := bel_call ‹Below w6.heap.size w6 wp› hb6; clear hb6))
  all_goals
    clear hC hD
    have Hb6 := Lib.hid hB6
    have hs6 := hB6.size
    clear hB6 hB5
    generalize wq = w7 at *
    obtain ⟨cb0_0, cb0_1, cb0_2⟩ := xHC.out.below (bel_call (bel_call (bel_call (bel_call (bel_call (bel_call Hb0.out Hb1.out) Hb2.out) Hb3.out) Hb4.out) Hb5.out) Hb6.out) xlt
    obtain ⟨cb1_0, cb1_1, cb1_2⟩ := xxHC.out.below (bel_call Hb5.out Hb6.out) xxlt
    go_wp2_with fail
    go_ret
    exact ⟨rfl, (bel_of HB0.out (by have := HB0.out.size; omega) (bel_call (bel_call (bel_call (bel_call (bel_call (bel_call Hb0.out Hb1.out) Hb2.out) Hb3.out) Hb4.out) Hb5.out) Hb6.out))⟩

end Go.Proofs.YtdiffepokiabkaaDoor
