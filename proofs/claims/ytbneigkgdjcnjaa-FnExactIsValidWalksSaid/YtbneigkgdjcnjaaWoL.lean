/- The walk of the law of IsValidWalks. -/
import Derived.Test.YtbneigkgdjcnjaaWos
import Derived.Test.YtbneigkgdjcnjaaLnA
namespace Go.Proofs.Ytbneigkgdjcnjaa
open Go.ChangeShapes Go.WideShapes Go.ChangeAt Go.RowKit Go.PlainAid
set_option linter.unusedVariables false

theorem specIsValidWalks_any (x : NetD) (A L V : Option Addr) (ca cl cv : Nat) (xs : List I3) (w : World) (hA : StrsIn w (Zone.below w.heap.size) A x.stops) (hL : LinesIn w (Zone.below w.heap.size) L x.lines) (hV : I3sIn w (Zone.below w.heap.size) V xs) (hx : Fits x) (hv : xs.length ≤ 1048576) :
    Calls Try.prog 55 #[.agg #[.slice A x.stops.length ca, .slice L x.lines.length cl], .slice V xs.length cv] w fun e w' => e = .returned (.bool (netB x && walksB x.stops.length xs)) ∧ Below w.heap.size w w' := by
  have H0 : Hid (NetBox w (w.alloc (.cells #[.slice A x.stops.length ca, .slice L x.lines.length cl] 31)) w.heap.size x A ca L cl) := Lib.hid (NetBox.box hA hL)
  have HV0 := Lib.hid (hV.call H0.out.bel)
  have hn := hx.stops
  clear hA hL hV
  go_enter Try.func55, Try.ntmps55
  go_wp2_with fail
  refine (l7Good_any x _ _ _ _ _ _ xs _ H0.out.stops H0.out.lines HV0.out hx hv).mono ?_
  rintro e w1 ⟨rfl, hb1⟩
  have H1 := Lib.hid (H0.out.call hb1)
  clear hb1
  go_wp2_with fail
  go_ret
  exact ⟨retB rfl, H1.out.bel⟩

theorem implIsValidWalks_any (x : NetD) (A L V : Option Addr) (ca cl cv : Nat) (xs : List I3) (w : World) (hA : StrsIn w (Zone.below w.heap.size) A x.stops) (hL : LinesIn w (Zone.below w.heap.size) L x.lines) (hV : I3sIn w (Zone.below w.heap.size) V xs) (hx : Fits x) (hv : xs.length ≤ 1048576) :
    Calls Try.prog 57 #[.agg #[.slice A x.stops.length ca, .slice L x.lines.length cl], .slice V xs.length cv] w fun e w' => e = .returned (.bool (netB x && walksB x.stops.length xs)) ∧ Below w.heap.size w w' := by
  have H0 : Hid (NetBox w (w.alloc (.cells #[.slice A x.stops.length ca, .slice L x.lines.length cl] 31)) w.heap.size x A ca L cl) := Lib.hid (NetBox.box hA hL)
  have HV0 := Lib.hid (hV.call H0.out.bel)
  have hn := hx.stops
  clear hA hL hV
  cases g0 : netB x
  all_goals
    go_enter Try.func57, Try.ntmps57
    go_wp2_with fail
    refine (isValidNetwork_any x _ _ _ _ _ H0.out.stops H0.out.lines hx).mono ?_
    rintro e w1 ⟨rfl, hb1⟩
    have H1 := Lib.hid (H0.out.call hb1)
    have HV1 := Lib.hid (HV0.out.call hb1)
    clear hb1
    obtain ⟨c0, c1⟩ := H1.out.cells
    go_wp2_with fail
  · go_ret
    exact ⟨retB rfl, H1.out.bel⟩
  · refine (areWalks_any x _ _ _ _ _ _ xs _ HV1.out hn hv).mono ?_
    rintro e w2 ⟨rfl, hb2⟩
    have H2 := Lib.hid (H1.out.call hb2)
    clear hb2
    go_wp2_with fail
    go_ret
    exact ⟨retB rfl, H2.out.bel⟩

set_option maxRecDepth 100000 in
set_option maxHeartbeats 4000000 in
theorem fnIsValidWalks_walk (vx : Value) (x : NetD) (vxs : Value) (xs : List I3) (w : World) (hx : LNet w vx x) (hxs : LWalks w vxs xs) :
    Calls Try.prog 14 #[vx, vxs] w fun e w' => e = .returned (.bool true) ∧ Below w.heap.size w w' := by
  obtain ⟨xA, xca, xL, xcl, rfl, xh1, xh2, xl1, xl2, xl3, xl4⟩ := hx
  obtain ⟨xsA, xsc, rfl, xsh1, xsl1⟩ := hxs
  have hb0 : Below w.heap.size w (w.alloc (.cells #[.slice xA x.stops.length xca, .slice xL x.lines.length xcl] 25)) := by go_grown
  have xHh1 := Lib.hid (xh1.call hb0)
  have xHh2 := Lib.hid (xh2.call hb0)
  have xsHh1 := Lib.hid (xsh1.call hb0)
  clear xh1 xh2 xsh1
  have xHC : Hid (Net2 (w.alloc (.cells #[.slice xA x.stops.length xca, .slice xL x.lines.length xcl] 25)) w.heap.size x xA xca xL xcl) := Lib.hid (by refine ⟨?_, ?_⟩ <;> go_simp)
  have xlt : w.heap.size < (w.alloc (.cells #[.slice xA x.stops.length xca, .slice xL x.lines.length xcl] 25)).heap.size := by simp
  have HB0 := Lib.hid hb0
  clear hb0
  by_cases xhz : szI (szNet x) 1048576 < 0
  · skip
    go_enter Try.func14, Try.ntmps14
    go_wp2_with fail
    generalize (w.alloc (.cells #[.slice xA x.stops.length xca, .slice xL x.lines.length xcl] 25)) = w0 at *
    obtain ⟨cb0_0, cb0_1⟩ := xHC.out.below (Below.refl w0.heap.size w0) xlt
    go_wp2_with fail
    refine (szNetwork_any x _ _ _ _ _ _ (xHh1.out.call (Below.refl w0.heap.size w0)) (xHh2.out.call (Below.refl w0.heap.size w0)) (by omega) (by omega) xl1 xl2 xl3 xl4).mono ?_
    rintro e w1 ⟨rfl, hb0⟩
    have Hb0 := Lib.hid hb0
    have hs0 := hb0.size
    clear hb0
    clear cb0_0 cb0_1
    obtain ⟨cb0_0, cb0_1⟩ := xHC.out.below Hb0.out xlt
    go_wp2_with fail
    go_ret
    exact ⟨rfl, (bel_of HB0.out (by have := HB0.out.size; omega) Hb0.out)⟩
  have xhn := szNet_le xhz (by omega)
  have xf := fits_le xhn
  have xle : szI (szNet x) 1048576 ≤ 1048576 := szI_le (by omega)
  by_cases xshz : szI (xs.length) (szI (szNet x) 1048576) < 0
  · skip
    go_enter Try.func14, Try.ntmps14
    go_wp2_with fail
    generalize (w.alloc (.cells #[.slice xA x.stops.length xca, .slice xL x.lines.length xcl] 25)) = w0 at *
    obtain ⟨cb0_0, cb0_1⟩ := xHC.out.below (Below.refl w0.heap.size w0) xlt
    go_wp2_with fail
    refine (szNetwork_any x _ _ _ _ _ _ (xHh1.out.call (Below.refl w0.heap.size w0)) (xHh2.out.call (Below.refl w0.heap.size w0)) (by omega) (by omega) xl1 xl2 xl3 xl4).mono ?_
    rintro e w1 ⟨rfl, hb0⟩
    have Hb0 := Lib.hid hb0
    have hs0 := hb0.size
    clear hb0
    clear cb0_0 cb0_1
    obtain ⟨cb0_0, cb0_1⟩ := xHC.out.below Hb0.out xlt
    go_wp2_with fail
    refine (szWalkS_any _ _ _ _ _ (by omega) (by omega) xsl1).mono ?_
    rintro e wz ⟨rfl, rfl⟩
    go_wp2_with fail
    go_ret
    exact ⟨rfl, (bel_of HB0.out (by have := HB0.out.size; omega) Hb0.out)⟩
  have xsf := szNet_le xshz (by omega)
  have xsle : szI (xs.length) (szI (szNet x) 1048576) ≤ 1048576 := szI_le (by omega)
  go_enter Try.func14, Try.ntmps14
  go_wp2_with fail
  generalize (w.alloc (.cells #[.slice xA x.stops.length xca, .slice xL x.lines.length xcl] 25)) = w0 at *
  obtain ⟨cb0_0, cb0_1⟩ := xHC.out.below (Below.refl w0.heap.size w0) xlt
  go_wp2_with fail
  refine (szNetwork_any x _ _ _ _ _ _ (xHh1.out.call (Below.refl w0.heap.size w0)) (xHh2.out.call (Below.refl w0.heap.size w0)) (by omega) (by omega) xl1 xl2 xl3 xl4).mono ?_
  rintro e w1 ⟨rfl, hb0⟩
  have Hb0 := Lib.hid hb0
  have hs0 := hb0.size
  clear hb0
  clear cb0_0 cb0_1
  obtain ⟨cb0_0, cb0_1⟩ := xHC.out.below Hb0.out xlt
  go_wp2_with fail
  refine (szWalkS_any _ _ _ _ _ (by omega) (by omega) xsl1).mono ?_
  rintro e wz ⟨rfl, rfl⟩
  clear xl1 xl2 xl3 xl4
  go_wp2_with fail
  refine (toNetwork_new x _ _ _ _ _ (xHh1.out.call Hb0.out) (xHh2.out.call Hb0.out) xf).mono ?_
  rintro e w2 ⟨xsg, xsh, rfl, _, _, _, xsi1, xsi2, hb1⟩
  have Hb1 := Lib.hid hb1
  have hs1 := hb1.size
  have xsHi1 := Lib.hid (xsi1.to_below (Nat.le_refl _))
  have xsHi2 := Lib.hid (xsi2.to_below (Nat.le_refl _))
  clear xsi1 xsi2
  clear hb1
  clear cb0_0 cb0_1
  obtain ⟨cb0_0, cb0_1⟩ := xHC.out.below (bel_call Hb0.out Hb1.out) xlt
  go_wp2_with fail
  refine (toWalkS_new _ _ xs _ (xsHh1.out.call (bel_call Hb0.out Hb1.out)) xsf).mono ?_
  rintro e w3 ⟨xssg, rfl, _, _, xssi1, hb2⟩
  have Hb2 := Lib.hid hb2
  have hs2 := hb2.size
  have xssHi1 := Lib.hid (xssi1.to_below (Nat.le_refl _))
  clear xssi1
  clear hb2
  clear cb0_0 cb0_1
  obtain ⟨cb0_0, cb0_1⟩ := xHC.out.below (bel_call (bel_call Hb0.out Hb1.out) Hb2.out) xlt
  go_wp2_with fail
  refine (specIsValidWalks_any x _ _ _ _ _ _ xs _ (xsHi1.out.call Hb2.out) (xsHi2.out.call Hb2.out) (xssHi1.out.call (Below.refl w3.heap.size w3)) xf xsf).mono ?_
  rintro e w4 ⟨rfl, hb3⟩
  have Hb3 := Lib.hid hb3
  have hs3 := hb3.size
  clear hb3
  clear cb0_0 cb0_1
  obtain ⟨cb0_0, cb0_1⟩ := xHC.out.below (bel_call (bel_call (bel_call Hb0.out Hb1.out) Hb2.out) Hb3.out) xlt
  go_wp2_with fail
  refine (toNetwork_new x _ _ _ _ _ (xHh1.out.call (bel_call (bel_call (bel_call Hb0.out Hb1.out) Hb2.out) Hb3.out)) (xHh2.out.call (bel_call (bel_call (bel_call Hb0.out Hb1.out) Hb2.out) Hb3.out)) xf).mono ?_
  rintro e w5 ⟨xxg, xxh, rfl, _, _, _, xxi1, xxi2, hb4⟩
  have Hb4 := Lib.hid hb4
  have hs4 := hb4.size
  have xxHi1 := Lib.hid xxi1
  have xxHi2 := Lib.hid xxi2
  clear xxi1 xxi2
  clear hb4
  clear cb0_0 cb0_1
  obtain ⟨cb0_0, cb0_1⟩ := xHC.out.below (bel_call (bel_call (bel_call (bel_call Hb0.out Hb1.out) Hb2.out) Hb3.out) Hb4.out) xlt
  go_wp2_with fail
  have hb5 : Below w5.heap.size w5 (w5.alloc (.cells #[.slice (some ⟨xxg, 0, none⟩) x.stops.length x.stops.length, .slice (some ⟨xxh, 0, none⟩) x.lines.length x.lines.length] 31)) := by go_grown
  have Hb5 := Lib.hid hb5
  have hs5 := hb5.size
  have xxHC : Hid (Net2 (w5.alloc (.cells #[.slice (some ⟨xxg, 0, none⟩) x.stops.length x.stops.length, .slice (some ⟨xxh, 0, none⟩) x.lines.length x.lines.length] 31)) w5.heap.size x (some ⟨xxg, 0, none⟩) x.stops.length (some ⟨xxh, 0, none⟩) x.lines.length) := Lib.hid (by refine ⟨?_, ?_⟩ <;> go_simp)
  have xxlt : w5.heap.size < (w5.alloc (.cells #[.slice (some ⟨xxg, 0, none⟩) x.stops.length x.stops.length, .slice (some ⟨xxh, 0, none⟩) x.lines.length x.lines.length] 31)).heap.size := by simp
  clear hb5
  generalize (w5.alloc (.cells #[.slice (some ⟨xxg, 0, none⟩) x.stops.length x.stops.length, .slice (some ⟨xxh, 0, none⟩) x.lines.length x.lines.length] 31)) = w6 at *
  clear cb0_0 cb0_1
  obtain ⟨cb0_0, cb0_1⟩ := xHC.out.below (bel_call (bel_call (bel_call (bel_call (bel_call Hb0.out Hb1.out) Hb2.out) Hb3.out) Hb4.out) Hb5.out) xlt
  obtain ⟨cb1_0, cb1_1⟩ := xxHC.out.below (Below.refl w6.heap.size w6) xxlt
  go_wp2_with fail
  refine (toWalkS_new _ _ xs _ (xsHh1.out.call (bel_call (bel_call (bel_call (bel_call (bel_call Hb0.out Hb1.out) Hb2.out) Hb3.out) Hb4.out) Hb5.out)) xsf).mono ?_
  rintro e w7 ⟨xsxg, rfl, _, _, xsxi1, hb6⟩
  have Hb6 := Lib.hid hb6
  have hs6 := hb6.size
  have xsxHi1 := Lib.hid xsxi1
  clear xsxi1
  clear hb6
  clear cb0_0 cb0_1
  clear cb1_0 cb1_1
  obtain ⟨cb0_0, cb0_1⟩ := xHC.out.below (bel_call (bel_call (bel_call (bel_call (bel_call (bel_call Hb0.out Hb1.out) Hb2.out) Hb3.out) Hb4.out) Hb5.out) Hb6.out) xlt
  obtain ⟨cb1_0, cb1_1⟩ := xxHC.out.below Hb6.out xxlt
  go_wp2_with fail
  refine (implIsValidWalks_any x _ _ _ _ _ _ xs _ ((xxHi1.out.new_call (bel_call Hb5.out Hb6.out) (Nat.le_refl _)).to_below (by have := (bel_call Hb5.out Hb6.out).size; omega)) ((xxHi2.out.new_call (bel_call Hb5.out Hb6.out) (Nat.le_refl _)).to_below (by have := (bel_call Hb5.out Hb6.out).size; omega)) ((xsxHi1.out.new_call (Below.refl w7.heap.size w7) (Nat.le_refl _)).to_below (by have := (Below.refl w7.heap.size w7).size; omega)) xf xsf).mono ?_
  rintro e w8 ⟨rfl, hb7⟩
  have Hb7 := Lib.hid hb7
  have hs7 := hb7.size
  clear hb7
  clear cb0_0 cb0_1
  clear cb1_0 cb1_1
  obtain ⟨cb0_0, cb0_1⟩ := xHC.out.below (bel_call (bel_call (bel_call (bel_call (bel_call (bel_call (bel_call Hb0.out Hb1.out) Hb2.out) Hb3.out) Hb4.out) Hb5.out) Hb6.out) Hb7.out) xlt
  obtain ⟨cb1_0, cb1_1⟩ := xxHC.out.below (bel_call Hb6.out Hb7.out) xxlt
  go_wp2_with fail
  clear cb0_0 cb0_1
  clear cb1_0 cb1_1
  have hC : ∀ w', Below w8.heap.size w8 w' → Net2 w' w.heap.size x xA xca xL xcl := fun w' hb => xHC.out.below (bel_call (bel_call (bel_call (bel_call (bel_call (bel_call (bel_call (bel_call Hb0.out Hb1.out) Hb2.out) Hb3.out) Hb4.out) Hb5.out) Hb6.out) Hb7.out) hb) xlt
  have hD : ∀ w', Below w8.heap.size w8 w' → Net2 w' w5.heap.size x (some ⟨xxg, 0, none⟩) x.stops.length (some ⟨xxh, 0, none⟩) x.lines.length := fun w' hb => xxHC.out.below (bel_call (bel_call Hb6.out Hb7.out) hb) xxlt
  unfold Net2 at hC hD
  go_region_held3 (fun w' => Below w8.heap.size w8 w') (repeat' first | assumption | exact Nat.le_refl _ | exact Below.refl _ _ | (refine bel_drew ?_) | (refine bel_alloc ?_ _) | (refine bel_set ?_ ?_ _))
    (first
      | (go_at_call 17; refine (toNetwork_new x _ _ _ _ _ (xHh1.out.call (bel_call (bel_call (bel_call (bel_call (bel_call (bel_call (bel_call (bel_call Hb0.out Hb1.out) Hb2.out) Hb3.out) Hb4.out) Hb5.out) Hb6.out) Hb7.out) ‹Below w8.heap.size w8 _›)) (xHh2.out.call (bel_call (bel_call (bel_call (bel_call (bel_call (bel_call (bel_call (bel_call Hb0.out Hb1.out) Hb2.out) Hb3.out) Hb4.out) Hb5.out) Hb6.out) Hb7.out) ‹Below w8.heap.size w8 _›)) xf).mono ?_; rintro e wp ⟨mg, mh, rfl, _, _, _, mi1, mi2, hb5⟩; have hB5 := bel_call ‹Below w8.heap.size w8 _› hb5; have Mi1 := Lib.hid (mi1.to_below (Nat.le_refl _)); have Mi2 := Lib.hid (mi2.to_below (Nat.le_refl _)); clear mi1 mi2 hb5)
      | (go_at_call 19; refine (eqNetwork_same x _ _ _ _ _ _ _ _ _ (((xxHi1.out.new_call (bel_call (bel_call Hb5.out Hb6.out) Hb7.out) (Nat.le_refl _)).to_below (by have := (bel_call (bel_call Hb5.out Hb6.out) Hb7.out).size; omega)).call ‹Below w8.heap.size w8 _›) (((xxHi2.out.new_call (bel_call (bel_call Hb5.out Hb6.out) Hb7.out) (Nat.le_refl _)).to_below (by have := (bel_call (bel_call Hb5.out Hb6.out) Hb7.out).size; omega)).call ‹Below w8.heap.size w8 _›) Mi1.out Mi2.out xf).mono ?_; rintro e wq ⟨rfl, hb6⟩; have hB6 := bel_call ‹Below w8.heap.size w8 wp› hb6; clear hb6))
  all_goals
    clear hC hD
    have Hb8 := Lib.hid hB6
    have hs8 := hB6.size
    clear hB6 hB5
    generalize wq = w9 at *
    obtain ⟨cb0_0, cb0_1⟩ := xHC.out.below (bel_call (bel_call (bel_call (bel_call (bel_call (bel_call (bel_call (bel_call Hb0.out Hb1.out) Hb2.out) Hb3.out) Hb4.out) Hb5.out) Hb6.out) Hb7.out) Hb8.out) xlt
    obtain ⟨cb1_0, cb1_1⟩ := xxHC.out.below (bel_call (bel_call Hb6.out Hb7.out) Hb8.out) xxlt
    go_wp2_with fail
    refine (toWalkS_new _ _ xs _ (xsHh1.out.call (bel_call (bel_call (bel_call (bel_call (bel_call (bel_call (bel_call (bel_call Hb0.out Hb1.out) Hb2.out) Hb3.out) Hb4.out) Hb5.out) Hb6.out) Hb7.out) Hb8.out)) xsf).mono ?_
    rintro e w10 ⟨mg, rfl, _, _, mi1, hb9⟩
    have Hb9 := Lib.hid hb9
    have hs9 := hb9.size
    have Mi1 := Lib.hid (mi1.to_below (Nat.le_refl _))
    clear mi1
    clear hb9
    clear cb0_0 cb0_1
    clear cb1_0 cb1_1
    obtain ⟨cb0_0, cb0_1⟩ := xHC.out.below (bel_call (bel_call (bel_call (bel_call (bel_call (bel_call (bel_call (bel_call (bel_call Hb0.out Hb1.out) Hb2.out) Hb3.out) Hb4.out) Hb5.out) Hb6.out) Hb7.out) Hb8.out) Hb9.out) xlt
    obtain ⟨cb1_0, cb1_1⟩ := xxHC.out.below (bel_call (bel_call (bel_call Hb6.out Hb7.out) Hb8.out) Hb9.out) xxlt
    go_wp2_with fail
    refine (eqWalkS_same _ _ _ _ xs _ ((xsxHi1.out.new_call (bel_call (bel_call Hb7.out Hb8.out) Hb9.out) (Nat.le_refl _)).to_below (by have := (bel_call (bel_call Hb7.out Hb8.out) Hb9.out).size; omega)) Mi1.out xsf).mono ?_
    rintro e w11 ⟨rfl, hb10⟩
    have Hb10 := Lib.hid hb10
    have hs10 := hb10.size
    clear Mi1
    clear hb10
    clear cb0_0 cb0_1
    clear cb1_0 cb1_1
    obtain ⟨cb0_0, cb0_1⟩ := xHC.out.below (bel_call (bel_call (bel_call (bel_call (bel_call (bel_call (bel_call (bel_call (bel_call (bel_call Hb0.out Hb1.out) Hb2.out) Hb3.out) Hb4.out) Hb5.out) Hb6.out) Hb7.out) Hb8.out) Hb9.out) Hb10.out) xlt
    obtain ⟨cb1_0, cb1_1⟩ := xxHC.out.below (bel_call (bel_call (bel_call (bel_call Hb6.out Hb7.out) Hb8.out) Hb9.out) Hb10.out) xxlt
    go_wp2_with fail
    go_ret
    exact ⟨rfl, (bel_of HB0.out (by have := HB0.out.size; omega) (bel_call (bel_call (bel_call (bel_call (bel_call (bel_call (bel_call (bel_call (bel_call (bel_call Hb0.out Hb1.out) Hb2.out) Hb3.out) Hb4.out) Hb5.out) Hb6.out) Hb7.out) Hb8.out) Hb9.out) Hb10.out))⟩

end Go.Proofs.Ytbneigkgdjcnjaa
