/- The walk of the law of FormatCalendar. -/
import Derived.Test.YtdiffepokiabkaaDoorFcd
import Derived.Test.YtdiffepokiabkaaDoorRet
import Derived.Test.YtdiffepokiabkaaDoorOpenC
namespace Go.Proofs.YtdiffepokiabkaaDoor
open Go.ChangeShapes Go.WideShapes Go.ChangeAt Go.RowKit Go.PlainAid
set_option linter.unusedVariables false
set_option linter.unusedSimpArgs false

set_option maxRecDepth 100000 in
set_option maxHeartbeats 4000000 in
theorem fnFormatCalendar_walk (vx : Value) (x : (Int × Int × Int) × (List Int × List Int)) (w : World) (HT : Pow10 w) (hx : LCal w vx x) :
    Calls Tryd.prog 5 #[vx] w fun e w' => e = .returned (.bool true) ∧ Below w.heap.size w w' := by
  have HTH := Lib.hid HT
  clear HT
  obtain ⟨⟨xf, xt', xd⟩, xu, xv⟩ := x
  obtain ⟨xA, xca, xR, xcr, rfl, xh1, xh2, xl1, xl2⟩ := hx
  simp only [] at xh1 xh2 xl1 xl2 ⊢
  replace xh1 := IntsAt.in xh1
  replace xh2 := IntsAt.in xh2
  have hb0 : Below w.heap.size w (w.alloc (.cells #[.int .i64 xf, .int .i64 xt', .int .i64 xd, .slice xA xu.length xca, .slice xR xv.length xcr] 40)) := by go_grown
  have xHh1 := Lib.hid (xh1.call hb0)
  have xHh2 := Lib.hid (xh2.call hb0)
  clear xh1 xh2
  have xHC : Hid (Cal5 (w.alloc (.cells #[.int .i64 xf, .int .i64 xt', .int .i64 xd, .slice xA xu.length xca, .slice xR xv.length xcr] 40)) w.heap.size xf xt' xd xA xu.length xca xR xv.length xcr) := Lib.hid (by refine ⟨?_, ?_, ?_, ?_, ?_⟩ <;> go_simp)
  have xlt : w.heap.size < (w.alloc (.cells #[.int .i64 xf, .int .i64 xt', .int .i64 xd, .slice xA xu.length xca, .slice xR xv.length xcr] 40)).heap.size := by simp <;> omega
  have HB0 := Lib.hid hb0
  clear hb0
  by_cases xhz : szI (xu.length + xv.length) 1048576 < 0
  · skip
    go_enter Tryd.func5, Tryd.ntmps5
    go_wp2_with fail
    generalize (w.alloc (.cells #[.int .i64 xf, .int .i64 xt', .int .i64 xd, .slice xA xu.length xca, .slice xR xv.length xcr] 40)) = w0 at *
    obtain ⟨cb0_0, cb0_1, cb0_2, cb0_3, cb0_4⟩ := xHC.out.below (Below.refl w0.heap.size w0) xlt
    go_wp2_with fail
    refine (szCalendar_b _ _ _ _ _ _ _ _ _ _ _ (by omega) (by omega) xl1 xl2).mono ?_
    rintro e w1 ⟨rfl, hb0⟩
    have Hb0 := Lib.hid hb0
    have hs0 := hb0.size
    clear hb0
    clear cb0_0 cb0_1 cb0_2 cb0_3 cb0_4
    obtain ⟨cb0_0, cb0_1, cb0_2, cb0_3, cb0_4⟩ := xHC.out.below Hb0.out xlt
    go_wp2_with fail
    go_ret
    exact ⟨rfl, (bel_of HB0.out (by have := HB0.out.size; omega) Hb0.out)⟩
  have xhn := szNet_le xhz (by omega)
  have xn : xu.length ≤ 1048576 := by omega
  have xm : xv.length ≤ 1048576 := by omega
  have xle : szI (xu.length + xv.length) 1048576 ≤ 1048576 := szI_le (by omega)
  go_enter Tryd.func5, Tryd.ntmps5
  go_wp2_with fail
  generalize (w.alloc (.cells #[.int .i64 xf, .int .i64 xt', .int .i64 xd, .slice xA xu.length xca, .slice xR xv.length xcr] 40)) = w0 at *
  obtain ⟨cb0_0, cb0_1, cb0_2, cb0_3, cb0_4⟩ := xHC.out.below (Below.refl w0.heap.size w0) xlt
  go_wp2_with fail
  refine (szCalendar_b _ _ _ _ _ _ _ _ _ _ _ (by omega) (by omega) xl1 xl2).mono ?_
  rintro e w1 ⟨rfl, hb0⟩
  have Hb0 := Lib.hid hb0
  have hs0 := hb0.size
  clear hb0
  clear cb0_0 cb0_1 cb0_2 cb0_3 cb0_4
  obtain ⟨cb0_0, cb0_1, cb0_2, cb0_3, cb0_4⟩ := xHC.out.below Hb0.out xlt
  clear xl1 xl2
  go_wp2_with fail
  refine (toCalendar_new xf xt' xd _ _ _ _ xu xv _ (xHh1.out.call Hb0.out) (xHh2.out.call Hb0.out) xn xm).mono ?_
  rintro e w2 ⟨xsg, xsh, rfl, _, xsi1, xsi2, hb1⟩
  have Hb1 := Lib.hid hb1
  have hs1 := hb1.size
  have xsHi1 := Lib.hid (xsi1.to_below (Nat.le_refl _))
  have xsHi2 := Lib.hid (xsi2.to_below (Nat.le_refl _))
  clear xsi1 xsi2
  clear hb1
  clear cb0_0 cb0_1 cb0_2 cb0_3 cb0_4
  obtain ⟨cb0_0, cb0_1, cb0_2, cb0_3, cb0_4⟩ := xHC.out.below (bel_call Hb0.out Hb1.out) xlt
  go_wp2_with fail
  refine (specFormatCalendar_any xf xt' xd _ _ _ _ xu xv _ (xsHi1.out.call (Below.refl w2.heap.size w2)) (xsHi2.out.call (Below.refl w2.heap.size w2)) xn xm).mono ?_
  rintro e w3 ⟨rfl, hb2⟩
  have Hb2 := Lib.hid hb2
  have hs2 := hb2.size
  clear hb2
  clear cb0_0 cb0_1 cb0_2 cb0_3 cb0_4
  obtain ⟨cb0_0, cb0_1, cb0_2, cb0_3, cb0_4⟩ := xHC.out.below (bel_call (bel_call Hb0.out Hb1.out) Hb2.out) xlt
  go_wp2_with fail
  refine (toCalendar_new xf xt' xd _ _ _ _ xu xv _ (xHh1.out.call (bel_call (bel_call Hb0.out Hb1.out) Hb2.out)) (xHh2.out.call (bel_call (bel_call Hb0.out Hb1.out) Hb2.out)) xn xm).mono ?_
  rintro e w4 ⟨xxg, xxh, rfl, _, xxi1, xxi2, hb3⟩
  have Hb3 := Lib.hid hb3
  have hs3 := hb3.size
  have xxHi1 := Lib.hid xxi1
  have xxHi2 := Lib.hid xxi2
  clear xxi1 xxi2
  clear hb3
  clear cb0_0 cb0_1 cb0_2 cb0_3 cb0_4
  obtain ⟨cb0_0, cb0_1, cb0_2, cb0_3, cb0_4⟩ := xHC.out.below (bel_call (bel_call (bel_call Hb0.out Hb1.out) Hb2.out) Hb3.out) xlt
  go_wp2_with fail
  have hb4 : Below w4.heap.size w4 (w4.alloc (.cells #[.int .i64 xf, .int .i64 xt', .int .i64 xd, .slice (some ⟨xxg, 0, none⟩) xu.length xu.length, .slice (some ⟨xxh, 0, none⟩) xv.length xv.length] 44)) := by go_grown
  have Hb4 := Lib.hid hb4
  have hs4 := hb4.size
  have xxHC : Hid (Cal5 (w4.alloc (.cells #[.int .i64 xf, .int .i64 xt', .int .i64 xd, .slice (some ⟨xxg, 0, none⟩) xu.length xu.length, .slice (some ⟨xxh, 0, none⟩) xv.length xv.length] 44)) w4.heap.size xf xt' xd (some ⟨xxg, 0, none⟩) xu.length xu.length (some ⟨xxh, 0, none⟩) xv.length xv.length) := Lib.hid (by refine ⟨?_, ?_, ?_, ?_, ?_⟩ <;> go_simp)
  have xxlt : w4.heap.size < (w4.alloc (.cells #[.int .i64 xf, .int .i64 xt', .int .i64 xd, .slice (some ⟨xxg, 0, none⟩) xu.length xu.length, .slice (some ⟨xxh, 0, none⟩) xv.length xv.length] 44)).heap.size := by simp
  clear hb4
  generalize (w4.alloc (.cells #[.int .i64 xf, .int .i64 xt', .int .i64 xd, .slice (some ⟨xxg, 0, none⟩) xu.length xu.length, .slice (some ⟨xxh, 0, none⟩) xv.length xv.length] 44)) = w5 at *
  clear cb0_0 cb0_1 cb0_2 cb0_3 cb0_4
  obtain ⟨cb0_0, cb0_1, cb0_2, cb0_3, cb0_4⟩ := xHC.out.below (bel_call (bel_call (bel_call (bel_call Hb0.out Hb1.out) Hb2.out) Hb3.out) Hb4.out) xlt
  obtain ⟨cb1_0, cb1_1, cb1_2, cb1_3, cb1_4⟩ := xxHC.out.below (Below.refl w5.heap.size w5) xxlt
  go_wp2_with fail
  refine (implFormatCalendar_any xf xt' xd _ _ _ _ xu xv _ ((xxHi1.out.new_call Hb4.out (Nat.le_refl _)).to_below (by have := Hb4.out.size; omega)) ((xxHi2.out.new_call Hb4.out (Nat.le_refl _)).to_below (by have := Hb4.out.size; omega)) xn xm (HTH.out.call (bel_of HB0.out (by have := HB0.out.size; omega) (bel_call (bel_call (bel_call (bel_call Hb0.out Hb1.out) Hb2.out) Hb3.out) Hb4.out)))).mono ?_
  rintro e w6 ⟨rfl, hb5⟩
  have Hb5 := Lib.hid hb5
  have hs5 := hb5.size
  clear hb5
  clear cb0_0 cb0_1 cb0_2 cb0_3 cb0_4
  clear cb1_0 cb1_1 cb1_2 cb1_3 cb1_4
  obtain ⟨cb0_0, cb0_1, cb0_2, cb0_3, cb0_4⟩ := xHC.out.below (bel_call (bel_call (bel_call (bel_call (bel_call Hb0.out Hb1.out) Hb2.out) Hb3.out) Hb4.out) Hb5.out) xlt
  obtain ⟨cb1_0, cb1_1, cb1_2, cb1_3, cb1_4⟩ := xxHC.out.below Hb5.out xxlt
  go_wp2_with fail
  clear cb0_0 cb0_1 cb0_2 cb0_3 cb0_4
  clear cb1_0 cb1_1 cb1_2 cb1_3 cb1_4
  have hC : ∀ w', Below w6.heap.size w6 w' → Cal5 w' w.heap.size xf xt' xd xA xu.length xca xR xv.length xcr := fun w' hb => xHC.out.below (bel_call (bel_call (bel_call (bel_call (bel_call (bel_call Hb0.out Hb1.out) Hb2.out) Hb3.out) Hb4.out) Hb5.out) hb) xlt
  have hD : ∀ w', Below w6.heap.size w6 w' → Cal5 w' w4.heap.size xf xt' xd (some ⟨xxg, 0, none⟩) xu.length xu.length (some ⟨xxh, 0, none⟩) xv.length xv.length := fun w' hb => xxHC.out.below (bel_call Hb5.out hb) xxlt
  unfold Cal5 at hC hD
  go_region_held3 (fun w' => Below w6.heap.size w6 w') (repeat' first | assumption | exact Nat.le_refl _ | exact Below.refl _ _ | (refine bel_drew ?_) | (refine bel_alloc ?_ _) | (refine bel_set ?_ ?_ _))
    (first
      | (go_at_call 20; refine (toCalendar_new xf xt' xd _ _ _ _ xu xv _ (xHh1.out.call (bel_call (bel_call (bel_call (bel_call (bel_call (bel_call Hb0.out Hb1.out) Hb2.out) Hb3.out) Hb4.out) Hb5.out) ‹Below w6.heap.size w6 _›)) (xHh2.out.call (bel_call (bel_call (bel_call (bel_call (bel_call (bel_call Hb0.out Hb1.out) Hb2.out) Hb3.out) Hb4.out) Hb5.out) ‹Below w6.heap.size w6 _›)) xn xm).mono ?_; rintro e wp ⟨mg, mh, rfl, _, mi1, mi2, hb5⟩; have hB5 := bel_call ‹Below w6.heap.size w6 _› hb5; have Mi1 := Lib.hid (mi1.to_below (Nat.le_refl _)); have Mi2 := Lib.hid (mi2.to_below (Nat.le_refl _)); clear mi1 mi2 hb5)
      | (go_at_call 22; refine (eqCalendar_sameZ xf xt' xd _ _ _ _ _ _ _ _ xu xv _ (((xxHi1.out.new_call (bel_call Hb4.out Hb5.out) (Nat.le_refl _)).to_below (by have := (bel_call Hb4.out Hb5.out).size; omega)).call ‹Below w6.heap.size w6 _›) (((xxHi2.out.new_call (bel_call Hb4.out Hb5.out) (Nat.le_refl _)).to_below (by have := (bel_call Hb4.out Hb5.out).size; omega)).call ‹Below w6.heap.size w6 _›) Mi1.out Mi2.out xn xm).mono ?_; rintro e wq ⟨rfl, hb6⟩; have hB6 := bel_call ‹Below w6.heap.size w6 wp› hb6; clear hb6))
  all_goals
    clear hC hD
    have Hb6 := Lib.hid hB6
    have hs6 := hB6.size
    clear hB6 hB5
    generalize wq = w7 at *
    obtain ⟨cb0_0, cb0_1, cb0_2, cb0_3, cb0_4⟩ := xHC.out.below (bel_call (bel_call (bel_call (bel_call (bel_call (bel_call Hb0.out Hb1.out) Hb2.out) Hb3.out) Hb4.out) Hb5.out) Hb6.out) xlt
    obtain ⟨cb1_0, cb1_1, cb1_2, cb1_3, cb1_4⟩ := xxHC.out.below (bel_call Hb5.out Hb6.out) xxlt
    go_wp2_with fail
    go_ret
    exact ⟨rfl, (bel_of HB0.out (by have := HB0.out.size; omega) (bel_call (bel_call (bel_call (bel_call (bel_call (bel_call Hb0.out Hb1.out) Hb2.out) Hb3.out) Hb4.out) Hb5.out) Hb6.out))⟩

end Go.Proofs.YtdiffepokiabkaaDoor
