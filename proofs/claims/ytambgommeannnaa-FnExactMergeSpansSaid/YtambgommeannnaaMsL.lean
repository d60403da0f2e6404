/- The walk of the law of MergeSpans. -/
import Derived.Test.YtambgommeannnaaRns
import Derived.Test.YtambgommeannnaaSpm
namespace Go.Proofs.Ytambgommeannnaa
open Go.ChangeShapes Go.WideShapes Go.ChangeAt Go.RowKit Go.PlainAid
set_option linter.unusedVariables false
set_option linter.unusedSimpArgs false

set_option maxRecDepth 100000 in
set_option maxHeartbeats 4000000 in
theorem fnMergeSpans_walk (vxs : Value) (xs : List I2) (w : World) (hxs : LSpans w vxs xs) :
    Calls Try.prog 8 #[vxs] w fun e w' => e = .returned (.bool true) ∧ Below w.heap.size w w' := by
  obtain ⟨xsA, xsc, rfl, xsh1, xsl1⟩ := hxs
  have hb0 : Below w.heap.size w w := by go_grown
  have xsHh1 := Lib.hid (xsh1.call hb0)
  clear xsh1
  have HB0 := Lib.hid hb0
  clear hb0
  by_cases xshz : szI (xs.length) 1048576 < 0
  · skip
    go_enter Try.func8, Try.ntmps8
    go_wp2_with fail
    go_wp2_with fail
    refine (szSpanS_any _ _ _ _ _ (by omega) (by omega) xsl1).mono ?_
    rintro e wz ⟨rfl, rfl⟩
    go_wp2_with fail
    go_ret
    exact ⟨rfl, HB0.out⟩
  have xsf := szNet_le xshz (by omega)
  have xsle : szI (xs.length) 1048576 ≤ 1048576 := szI_le (by omega)
  have hlen := msL_len xs
  go_enter Try.func8, Try.ntmps8
  go_wp2_with fail
  go_wp2_with fail
  refine (szSpanS_any _ _ _ _ _ (by omega) (by omega) xsl1).mono ?_
  rintro e wz ⟨rfl, rfl⟩
  go_wp2_with fail
  refine (toSpanS_new _ _ xs _ (xsHh1.out.call (Below.refl w.heap.size w)) xsf).mono ?_
  rintro e w1 ⟨xssg, rfl, _, _, xssi1, hb0⟩
  have Hb0 := Lib.hid hb0
  have hs0 := hb0.size
  have xssHi1 := Lib.hid (xssi1.to_below (Nat.le_refl _))
  clear xssi1
  clear hb0
  go_wp2_with fail
  refine (specMerge_any _ _ xs _ (xssHi1.out.call (Below.refl w1.heap.size w1)) xsf).mono ?_
  rintro e w2 ⟨wA, wc, rfl, wi, hb1⟩
  have Hb1 := Lib.hid hb1
  have hs1 := hb1.size
  have wH := Lib.hid wi
  clear wi
  clear hb1
  go_wp2_with fail
  refine (toSpanS_new _ _ xs _ (xsHh1.out.call (bel_call Hb0.out Hb1.out)) xsf).mono ?_
  rintro e w3 ⟨xsxg, rfl, _, _, xsxi1, hb2⟩
  have Hb2 := Lib.hid hb2
  have hs2 := hb2.size
  have xsxHi1 := Lib.hid xsxi1
  clear xsxi1
  clear hb2
  go_wp2_with fail
  refine (implMerge_any _ _ _ xs _ ((xsxHi1.out.new_call (Below.refl w3.heap.size w3) (Nat.le_refl _)).to_below (by have := (Below.refl w3.heap.size w3).size; omega)) xsf).mono ?_
  rintro e w4 ⟨gA, gc, rfl, gi, hb3⟩
  have Hb3 := Lib.hid hb3
  have hs3 := hb3.size
  have gH := Lib.hid gi
  clear gi
  clear hb3
  go_wp2_with fail
  refine (eqSpanS_same _ _ _ _ (msL xs) _ (gH.out.to_below (Nat.le_refl _)) ((wH.out.new_call (bel_call Hb2.out Hb3.out) (Nat.le_refl _)).to_below (by have := (bel_call Hb2.out Hb3.out).size; omega)) hlen).mono ?_
  rintro e w5 ⟨rfl, hb4⟩
  have Hb4 := Lib.hid hb4
  have hs4 := hb4.size
  clear hb4
  go_wp2_with fail
  refine (toSpanS_new _ _ xs _ (xsHh1.out.call (bel_call (bel_call (bel_call (bel_call Hb0.out Hb1.out) Hb2.out) Hb3.out) Hb4.out)) xsf).mono ?_
  rintro e w6 ⟨mg, rfl, _, _, mi1, hb5⟩
  have Hb5 := Lib.hid hb5
  have hs5 := hb5.size
  have Mi1 := Lib.hid (mi1.to_below (Nat.le_refl _))
  clear mi1
  clear hb5
  go_wp2_with fail
  refine (eqSpanS_same _ _ _ _ xs _ ((xsxHi1.out.new_call (bel_call (bel_call Hb3.out Hb4.out) Hb5.out) (Nat.le_refl _)).to_below (by have := (bel_call (bel_call Hb3.out Hb4.out) Hb5.out).size; omega)) Mi1.out xsf).mono ?_
  rintro e w7 ⟨rfl, hb6⟩
  have Hb6 := Lib.hid hb6
  have hs6 := hb6.size
  clear Mi1
  clear hb6
  have hw0 := HB0.out.size
  go_wp2_with fail
  have hmk := markSpanS_any w2.heap.size w3.heap.size _ xs.length xs 1 _ (xsxHi1.out.new_call (bel_call (bel_call (bel_call Hb3.out Hb4.out) Hb5.out) Hb6.out) (Nat.le_refl _)) xsf (by omega)
  push_cast at hmk
  refine hmk.mono ?_
  rintro e w8 ⟨rfl, hm7⟩
  clear hmk
  have HB8 : Hid (Below w.heap.size w w8) := Lib.hid ((bel_of HB0.out (by have := HB0.out.size; omega) (bel_call (bel_call (bel_call (bel_call (bel_call (bel_call Hb0.out Hb1.out) Hb2.out) Hb3.out) Hb4.out) Hb5.out) Hb6.out)).trans ((hm7.below (by have := (bel_call (bel_call (bel_call (bel_call Hb2.out Hb3.out) Hb4.out) Hb5.out) Hb6.out).size; omega)).mono (by have := HB0.out.size; have := (bel_call Hb0.out Hb1.out).size; omega)))
  have HA8 : Hid (Below w.heap.size w w8) := Lib.hid ((bel_call (bel_call (bel_call (bel_call (bel_call (bel_call Hb0.out Hb1.out) Hb2.out) Hb3.out) Hb4.out) Hb5.out) Hb6.out).trans ((hm7.below (by have := (bel_call (bel_call (bel_call (bel_call Hb2.out Hb3.out) Hb4.out) Hb5.out) Hb6.out).size; omega)).mono (bel_call Hb0.out Hb1.out).size))
  have wH8 := Lib.hid ((wH.out.new_call (bel_call (bel_call (bel_call (bel_call Hb2.out Hb3.out) Hb4.out) Hb5.out) Hb6.out) (Nat.le_refl _)).keep fun c hc => hm7.same (.inl (by have := hc.2; have := (Below.refl w2.heap.size w2).size; omega)) (by have := hc.2; have := (bel_call (bel_call (bel_call (bel_call Hb2.out Hb3.out) Hb4.out) Hb5.out) Hb6.out).size; omega))
  have gH8 := Lib.hid ((gH.out.new_call (bel_call (bel_call Hb4.out Hb5.out) Hb6.out) (Nat.le_refl _)).keep fun c hc => hm7.same (.inr (by have := hc.1; have := (Below.refl w3.heap.size w3).size; omega)) (by have := hc.2; have := (bel_call (bel_call Hb4.out Hb5.out) Hb6.out).size; omega))
  have hsz7 := hm7.size
  skip
  clear hm7
  skip
  have hkk : decide ((1 : Int) + ((2 * xs.length : Nat) : Int) < 0) = false := by simp; omega
  push_cast at hkk
  go_wp2_with fail
  refine (eqSpanS_same _ _ _ _ (msL xs) _ (gH8.out.to_below (by have := (bel_call (bel_call Hb4.out Hb5.out) Hb6.out).size; omega)) (wH8.out.to_below (by have := (bel_call (bel_call (bel_call (bel_call Hb2.out Hb3.out) Hb4.out) Hb5.out) Hb6.out).size; omega)) hlen).mono ?_
  rintro e w9 ⟨rfl, hq⟩
  have hsq := hq.size
  have gHq := Lib.hid (gH8.out.new_call hq (by have := (bel_call (bel_call Hb4.out Hb5.out) Hb6.out).size; omega))
  have wHq := Lib.hid (wH8.out.new_call hq (by have := (bel_call (bel_call (bel_call (bel_call Hb2.out Hb3.out) Hb4.out) Hb5.out) Hb6.out).size; omega))
  have HBq : Hid (Below w.heap.size w w9) := Lib.hid (bel_of HB8.out (by have := HB8.out.size; omega) hq)
  have HAq : Hid (Below w.heap.size w w9) := Lib.hid (bel_call HA8.out hq)
  clear hq
  go_wp2_with fail
  have hmm := markSpanS_res w3.heap.size w4.heap.size gA gc (msL xs) 1 w9 gHq.out hlen (by omega)
  push_cast at hmm
  refine hmm.mono ?_
  rintro e w10 ⟨rfl, hm, gi3⟩
  have GH := Lib.hid gi3
  have HBn : Hid (Below w.heap.size w w10) := Lib.hid (HBq.out.trans ((hm.below (by show _ ≤ w9.heap.size; have := (bel_call (bel_call (bel_call Hb3.out Hb4.out) Hb5.out) Hb6.out).size; omega)).mono (by have := HB0.out.size; have := (bel_call (bel_call Hb0.out Hb1.out) Hb2.out).size; omega)))
  have HAn : Hid (Below w.heap.size w w10) := Lib.hid (HAq.out.trans ((hm.below (by show _ ≤ w9.heap.size; have := (bel_call (bel_call (bel_call Hb3.out Hb4.out) Hb5.out) Hb6.out).size; omega)).mono (by have := (bel_call (bel_call Hb0.out Hb1.out) Hb2.out).size; omega)))
  have WH := Lib.hid (wHq.out.keep fun c hc => hm.same (.inl (by have := hc.2; have := Hb2.out.size; omega)) (by show _ < w9.heap.size; have := hc.2; have := (bel_call (bel_call (bel_call (bel_call Hb2.out Hb3.out) Hb4.out) Hb5.out) Hb6.out).size; omega))
  have hsn : w9.heap.size ≤ w10.heap.size := hm.size
  clear hm gi3 hmm
  have hkr : decide ((1 : Int) + (2 * (msL xs).length : Nat) < 0) = false := by simp; omega
  push_cast at hkr
  go_wp2_with fail
  have hhd := heldSpanS_any gA gc (msL xs).length 1 w10 _ GH.out hlen (by omega)
  push_cast at hhd
  refine hhd.mono ?_
  rintro e w11 ⟨rfl, rfl⟩
  clear hhd
  go_wp2_with fail
  refine (toSpanS_new _ _ xs _ (xsHh1.out.call HAn.out) xsf).mono ?_
  rintro e y1 ⟨xsyg, rfl, _, _, xsyi1, hy1⟩
  have xsyHi1 := Lib.hid (xsyi1.to_below (Nat.le_refl _))
  have Hy1 := Lib.hid hy1
  have hys10 := hy1.size
  clear hy1 xsyi1
  go_wp2_with fail
  refine (implMerge_any _ _ _ xs _ xsyHi1.out xsf).mono ?_
  rintro e y2 ⟨hA, hc, rfl, hi, hy2⟩
  have hH := Lib.hid hi
  have Hy2 := Lib.hid (bel_call Hy1.out hy2)
  have hys2 := hy2.size
  clear hi hy2
  go_wp2_with fail
  refine (eqSpanS_same _ _ _ _ (msL xs) _ (hH.out.to_below (Nat.le_refl _)) ((WH.out.new_call Hy2.out (by have := (bel_call (bel_call (bel_call (bel_call Hb2.out Hb3.out) Hb4.out) Hb5.out) Hb6.out).size; omega)).to_below (by have := (bel_call (bel_call (bel_call (bel_call Hb2.out Hb3.out) Hb4.out) Hb5.out) Hb6.out).size; omega)) hlen).mono ?_
  rintro e y3 ⟨rfl, hq3⟩
  have Hy3 := Lib.hid (bel_call Hy2.out hq3)
  clear hq3
  go_wp2_with fail
  have hhd := heldSpanS_any gA gc (msL xs).length 1 y3 _ (GH.out.new_call Hy3.out (by have := (bel_call (bel_call Hb4.out Hb5.out) Hb6.out).size; omega)) hlen (by omega)
  push_cast at hhd
  refine hhd.mono ?_
  rintro e y4 ⟨rfl, rfl⟩
  clear hhd
  go_wp2_with fail
  go_ret
  exact ⟨rfl, bel_of HBn.out (by have := HBn.out.size; omega) Hy3.out⟩

end Go.Proofs.Ytambgommeannnaa
