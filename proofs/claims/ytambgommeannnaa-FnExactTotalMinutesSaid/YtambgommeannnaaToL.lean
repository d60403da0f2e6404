/- The walk of the law of TotalMinutes. -/
import Derived.Test.YtambgommeannnaaRns
namespace Go.Proofs.Ytambgommeannnaa
open Go.ChangeShapes Go.WideShapes Go.ChangeAt Go.RowKit Go.PlainAid
set_option linter.unusedVariables false
set_option linter.unusedSimpArgs false

set_option maxRecDepth 100000 in
set_option maxHeartbeats 4000000 in
theorem fnTotalMinutes_walk (vxs : Value) (xs : List I2) (w : World) (hxs : LSpans w vxs xs) :
    Calls Try.prog 7 #[vxs] w fun e w' => e = .returned (.bool true) ∧ Below w.heap.size w w' := by
  obtain ⟨xsA, xsc, rfl, xsh1, xsl1⟩ := hxs
  have hb0 : Below w.heap.size w w := by go_grown
  have xsHh1 := Lib.hid (xsh1.call hb0)
  clear xsh1
  have HB0 := Lib.hid hb0
  clear hb0
  by_cases xshz : szI (xs.length) 1048576 < 0
  · skip
    go_enter Try.func7, Try.ntmps7
    go_wp2_with fail
    go_wp2_with fail
    refine (szSpanS_any _ _ _ _ _ (by omega) (by omega) xsl1).mono ?_
    rintro e wz ⟨rfl, rfl⟩
    go_wp2_with fail
    go_ret
    exact ⟨rfl, HB0.out⟩
  have xsf := szNet_le xshz (by omega)
  have xsle : szI (xs.length) 1048576 ≤ 1048576 := szI_le (by omega)
  go_enter Try.func7, Try.ntmps7
  go_wp2_with fail
  go_wp2_with fail
  refine (szSpanS_any _ _ _ _ _ (by omega) (by omega) xsl1).mono ?_
  rintro e wz ⟨rfl, rfl⟩
  go_wp2_with fail
  refine (toSpanS_new _ _ xs _ (xsHh1.out.call (Below.refl w.heap.size w)) xsf).mono ?_
  rintro e w1 ⟨xssg, rfl, _, _, xssi1, hb0⟩
  have Hb0 := Lib.hid hb0
  have hs0 := hb0.size
  have xssHi1 := Lib.hid (xssi1.to_below (Nat.le_refl _))
  clear xssi1
  clear hb0
  go_wp2_with fail
  refine (specTotal_any _ _ xs _ (xssHi1.out.call (Below.refl w1.heap.size w1)) xsf).mono ?_
  rintro e w2 ⟨rfl, hb1⟩
  have Hb1 := Lib.hid hb1
  have hs1 := hb1.size
  clear hb1
  go_wp2_with fail
  refine (toSpanS_new _ _ xs _ (xsHh1.out.call (bel_call Hb0.out Hb1.out)) xsf).mono ?_
  rintro e w3 ⟨xsxg, rfl, _, _, xsxi1, hb2⟩
  have Hb2 := Lib.hid hb2
  have hs2 := hb2.size
  have xsxHi1 := Lib.hid xsxi1
  clear xsxi1
  clear hb2
  go_wp2_with fail
  refine (implTotal_any _ _ _ xs _ ((xsxHi1.out.new_call (Below.refl w3.heap.size w3) (Nat.le_refl _)).to_below (by have := (Below.refl w3.heap.size w3).size; omega)) xsf).mono ?_
  rintro e w4 ⟨rfl, hb3⟩
  have Hb3 := Lib.hid hb3
  have hs3 := hb3.size
  clear hb3
  go_wp2_with fail
  refine (toSpanS_new _ _ xs _ (xsHh1.out.call (bel_call (bel_call (bel_call Hb0.out Hb1.out) Hb2.out) Hb3.out)) xsf).mono ?_
  rintro e w5 ⟨mg, rfl, _, _, mi1, hb4⟩
  have Hb4 := Lib.hid hb4
  have hs4 := hb4.size
  have Mi1 := Lib.hid (mi1.to_below (Nat.le_refl _))
  clear mi1
  clear hb4
  go_wp2_with fail
  refine (eqSpanS_same _ _ _ _ xs _ ((xsxHi1.out.new_call (bel_call Hb3.out Hb4.out) (Nat.le_refl _)).to_below (by have := (bel_call Hb3.out Hb4.out).size; omega)) Mi1.out xsf).mono ?_
  rintro e w6 ⟨rfl, hb5⟩
  have Hb5 := Lib.hid hb5
  have hs5 := hb5.size
  clear Mi1
  clear hb5
  go_wp2_with fail
  go_ret
  exact ⟨rfl, (bel_of HB0.out (by have := HB0.out.size; omega) (bel_call (bel_call (bel_call (bel_call (bel_call Hb0.out Hb1.out) Hb2.out) Hb3.out) Hb4.out) Hb5.out))⟩

end Go.Proofs.Ytambgommeannnaa
