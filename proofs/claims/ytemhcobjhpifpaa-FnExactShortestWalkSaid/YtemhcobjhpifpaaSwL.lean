/- The walk of the law of ShortestWalk. -/
import Derived.Test.YtemhcobjhpifpaaSwh
import Derived.Test.YtemhcobjhpifpaaWmk
namespace Go.Proofs.Ytemhcobjhpifpaa
open Go.ChangeShapes Go.WideShapes Go.ChangeAt Go.RowKit Go.PlainAid
set_option linter.unusedVariables false
set_option linter.unusedSimpArgs false

theorem wF_len (n : Nat) (xs : List I3) (t : Nat) : ∀ (k : Nat) (way : List Nat) (a : Nat) (d : Int), (wF n xs t k way a d).length ≤ way.length + k
  | 0, way, a, d => by
    rw [wF_zero]
    split <;> simp
  | k + 1, way, a, d => by
    rw [wF_succ]
    unfold scanF
    split
    · rename_i s _
      unfold wG
      split
      · simp
      · have := wF_len n xs t k (way ++ [s]) s (d - wmO xs a s)
        simp only [List.length_append, List.length_singleton] at this
        omega
    · simp
theorem swK_le (n : Nat) (xs : List I3) (f t : Nat) : swK n xs f t ≤ 50000 := by
  unfold swK
  cases h : (List.range 50000).find? (fun k => decide (wF n xs t k [f] f (fw xs n f t) ≠ [])) with
  | none => simp
  | some k =>
    have := List.mem_range.1 (List.mem_of_find?_eq_some h)
    simp only [Option.getD_some]
    omega
theorem swI_len (x : NetD) (xs : List I3) (f t : Int) : (swI x xs f t).length ≤ 1048576 := by
  unfold swI
  split
  · unfold swL iL
    rw [List.length_map]
    have h1 := wF_len x.stops.length xs t.toNat (swK x.stops.length xs f.toNat t.toNat) [f.toNat] f.toNat (fw xs x.stops.length f.toNat t.toNat)
    have h2 := swK_le x.stops.length xs f.toNat t.toNat
    simp only [List.length_singleton] at h1
    omega
  · simp

set_option maxRecDepth 100000 in
set_option maxHeartbeats 4000000 in
theorem fnShortestWalk_walk (vx : Value) (x : NetD) (vxs : Value) (xs : List I3) (f : Int) (wf : (Lit.int .i64 f).wf = true) (t : Int) (wt : (Lit.int .i64 t).wf = true) (w : World) (hx : LNet w vx x) (hxs : LWalks w vxs xs) :
    Calls Try.prog 3 #[vx, vxs, .int .i64 f, .int .i64 t] w fun e w' => e = .returned (.bool true) ∧ Below w.heap.size w w' := by
  obtain ⟨xA, xca, xL, xcl, rfl, xh1, xh2, xl1, xl2, xl3, xl4⟩ := hx
  obtain ⟨xsA, xsc, rfl, xsh1, xsl1⟩ := hxs
  try clear wf
  try clear wt
  have hb0 : Below w.heap.size w (w.alloc (.cells #[.slice xA x.stops.length xca, .slice xL x.lines.length xcl] 25)) := by go_grown
  have xHh1 := Lib.hid (xh1.call hb0)
  have xHh2 := Lib.hid (xh2.call hb0)
  have xsHh1 := Lib.hid (xsh1.call hb0)
  clear xh1 xh2 xsh1
  have xHC : Hid (Net2 (w.alloc (.cells #[.slice xA x.stops.length xca, .slice xL x.lines.length xcl] 25)) w.heap.size x xA xca xL xcl) := Lib.hid (by refine ⟨?_, ?_⟩ <;> go_simp)
  have xlt : w.heap.size < (w.alloc (.cells #[.slice xA x.stops.length xca, .slice xL x.lines.length xcl] 25)).heap.size := by simp <;> omega
  have HB0 := Lib.hid hb0
  clear hb0
  by_cases xhz : szI (szNet x) 1048576 < 0
  · skip
    go_enter Try.func3, Try.ntmps3
    go_wp2_with fail
    generalize (w.alloc (.cells #[.slice xA x.stops.length xca, .slice xL x.lines.length xcl] 25)) = w0 at *
    obtain ⟨cb0_0, cb0_1⟩ := xHC.out.below (Below.refl w0.heap.size w0) xlt
    go_wp2_with fail
    refine (szNetwork_any x _ _ _ _ _ _ (xHh1.out.call (Below.refl w0.heap.size w0)) (xHh2.out.call (Below.refl w0.heap.size w0)) (by omega) (by omega) xl1 xl2 xl3 xl4).mono ?_
    rintro e w1 ⟨rfl, hb0⟩
    have Hb0 := Lib.hid hb0
    have hs0 := hb0.size
    clear hb0
    clear cb0_0 cb0_1
    obtain ⟨cb0_0, cb0_1⟩ := xHC.out.below Hb0.out xlt
    go_wp2_with fail
    go_ret
    exact ⟨rfl, (bel_of HB0.out (by have := HB0.out.size; omega) Hb0.out)⟩
  have xhn := szNet_le xhz (by omega)
  have xf := fits_le xhn
  have xle : szI (szNet x) 1048576 ≤ 1048576 := szI_le (by omega)
  by_cases xshz : szI (xs.length) (szI (szNet x) 1048576) < 0
  · skip
    go_enter Try.func3, Try.ntmps3
    go_wp2_with fail
    generalize (w.alloc (.cells #[.slice xA x.stops.length xca, .slice xL x.lines.length xcl] 25)) = w0 at *
    obtain ⟨cb0_0, cb0_1⟩ := xHC.out.below (Below.refl w0.heap.size w0) xlt
    go_wp2_with fail
    refine (szNetwork_any x _ _ _ _ _ _ (xHh1.out.call (Below.refl w0.heap.size w0)) (xHh2.out.call (Below.refl w0.heap.size w0)) (by omega) (by omega) xl1 xl2 xl3 xl4).mono ?_
    rintro e w1 ⟨rfl, hb0⟩
    have Hb0 := Lib.hid hb0
    have hs0 := hb0.size
    clear hb0
    clear cb0_0 cb0_1
    obtain ⟨cb0_0, cb0_1⟩ := xHC.out.below Hb0.out xlt
    go_wp2_with fail
    refine (szWalkS_any _ _ _ _ _ (by omega) (by omega) xsl1).mono ?_
    rintro e wz ⟨rfl, rfl⟩
    go_wp2_with fail
    go_ret
    exact ⟨rfl, (bel_of HB0.out (by have := HB0.out.size; omega) Hb0.out)⟩
  have xsf := szNet_le xshz (by omega)
  have xsle : szI (xs.length) (szI (szNet x) 1048576) ≤ 1048576 := szI_le (by omega)
  have hlen : (swI x xs f t).length ≤ 1048576 := swI_len x xs f t
  go_enter Try.func3, Try.ntmps3
  go_wp2_with fail
  generalize (w.alloc (.cells #[.slice xA x.stops.length xca, .slice xL x.lines.length xcl] 25)) = w0 at *
  obtain ⟨cb0_0, cb0_1⟩ := xHC.out.below (Below.refl w0.heap.size w0) xlt
  go_wp2_with fail
  refine (szNetwork_any x _ _ _ _ _ _ (xHh1.out.call (Below.refl w0.heap.size w0)) (xHh2.out.call (Below.refl w0.heap.size w0)) (by omega) (by omega) xl1 xl2 xl3 xl4).mono ?_
  rintro e w1 ⟨rfl, hb0⟩
  have Hb0 := Lib.hid hb0
  have hs0 := hb0.size
  clear hb0
  clear cb0_0 cb0_1
  obtain ⟨cb0_0, cb0_1⟩ := xHC.out.below Hb0.out xlt
  go_wp2_with fail
  refine (szWalkS_any _ _ _ _ _ (by omega) (by omega) xsl1).mono ?_
  rintro e wz ⟨rfl, rfl⟩
  clear xl1 xl2 xl3 xl4
  go_wp2_with fail
  refine (toNetwork_new x _ _ _ _ _ (xHh1.out.call Hb0.out) (xHh2.out.call Hb0.out) xf).mono ?_
  rintro e w2 ⟨xsg, xsh, rfl, _, _, _, xsi1, xsi2, hb1⟩
  have Hb1 := Lib.hid hb1
  have hs1 := hb1.size
  have xsHi1 := Lib.hid (xsi1.to_below (Nat.le_refl _))
  have xsHi2 := Lib.hid (xsi2.to_below (Nat.le_refl _))
  clear xsi1 xsi2
  clear hb1
  clear cb0_0 cb0_1
  obtain ⟨cb0_0, cb0_1⟩ := xHC.out.below (bel_call Hb0.out Hb1.out) xlt
  go_wp2_with fail
  refine (toWalkS_new _ _ xs _ (xsHh1.out.call (bel_call Hb0.out Hb1.out)) xsf).mono ?_
  rintro e w3 ⟨xssg, rfl, _, _, xssi1, hb2⟩
  have Hb2 := Lib.hid hb2
  have hs2 := hb2.size
  have xssHi1 := Lib.hid (xssi1.to_below (Nat.le_refl _))
  clear xssi1
  clear hb2
  clear cb0_0 cb0_1
  obtain ⟨cb0_0, cb0_1⟩ := xHC.out.below (bel_call (bel_call Hb0.out Hb1.out) Hb2.out) xlt
  go_wp2_with fail
  refine (specShortest_any x _ _ _ _ _ _ xs f t _ (xsHi1.out.call Hb2.out) (xsHi2.out.call Hb2.out) (xssHi1.out.call (Below.refl w3.heap.size w3)) xf xsf).mono ?_
  rintro e w4 ⟨wA, wc, rfl, wi, hb3⟩
  have Hb3 := Lib.hid hb3
  have hs3 := hb3.size
  have wH := Lib.hid wi
  clear wi
  clear hb3
  clear cb0_0 cb0_1
  obtain ⟨cb0_0, cb0_1⟩ := xHC.out.below (bel_call (bel_call (bel_call Hb0.out Hb1.out) Hb2.out) Hb3.out) xlt
  go_wp2_with fail
  refine (toNetwork_new x _ _ _ _ _ (xHh1.out.call (bel_call (bel_call (bel_call Hb0.out Hb1.out) Hb2.out) Hb3.out)) (xHh2.out.call (bel_call (bel_call (bel_call Hb0.out Hb1.out) Hb2.out) Hb3.out)) xf).mono ?_
  rintro e w5 ⟨xxg, xxh, rfl, _, _, _, xxi1, xxi2, hb4⟩
  have Hb4 := Lib.hid hb4
  have hs4 := hb4.size
  have xxHi1 := Lib.hid xxi1
  have xxHi2 := Lib.hid xxi2
  clear xxi1 xxi2
  clear hb4
  clear cb0_0 cb0_1
  obtain ⟨cb0_0, cb0_1⟩ := xHC.out.below (bel_call (bel_call (bel_call (bel_call Hb0.out Hb1.out) Hb2.out) Hb3.out) Hb4.out) xlt
  go_wp2_with fail
  have hb5 : Below w5.heap.size w5 (w5.alloc (.cells #[.slice (some ⟨xxg, 0, none⟩) x.stops.length x.stops.length, .slice (some ⟨xxh, 0, none⟩) x.lines.length x.lines.length] 34)) := by go_grown
  have Hb5 := Lib.hid hb5
  have hs5 := hb5.size
  have xxHC : Hid (Net2 (w5.alloc (.cells #[.slice (some ⟨xxg, 0, none⟩) x.stops.length x.stops.length, .slice (some ⟨xxh, 0, none⟩) x.lines.length x.lines.length] 34)) w5.heap.size x (some ⟨xxg, 0, none⟩) x.stops.length (some ⟨xxh, 0, none⟩) x.lines.length) := Lib.hid (by refine ⟨?_, ?_⟩ <;> go_simp)
  have xxlt : w5.heap.size < (w5.alloc (.cells #[.slice (some ⟨xxg, 0, none⟩) x.stops.length x.stops.length, .slice (some ⟨xxh, 0, none⟩) x.lines.length x.lines.length] 34)).heap.size := by simp
  clear hb5
  generalize (w5.alloc (.cells #[.slice (some ⟨xxg, 0, none⟩) x.stops.length x.stops.length, .slice (some ⟨xxh, 0, none⟩) x.lines.length x.lines.length] 34)) = w6 at *
  clear cb0_0 cb0_1
  obtain ⟨cb0_0, cb0_1⟩ := xHC.out.below (bel_call (bel_call (bel_call (bel_call (bel_call Hb0.out Hb1.out) Hb2.out) Hb3.out) Hb4.out) Hb5.out) xlt
  obtain ⟨cb1_0, cb1_1⟩ := xxHC.out.below (Below.refl w6.heap.size w6) xxlt
  go_wp2_with fail
  refine (toWalkS_new _ _ xs _ (xsHh1.out.call (bel_call (bel_call (bel_call (bel_call (bel_call Hb0.out Hb1.out) Hb2.out) Hb3.out) Hb4.out) Hb5.out)) xsf).mono ?_
  rintro e w7 ⟨xsxg, rfl, _, _, xsxi1, hb6⟩
  have Hb6 := Lib.hid hb6
  have hs6 := hb6.size
  have xsxHi1 := Lib.hid xsxi1
  clear xsxi1
  clear hb6
  clear cb0_0 cb0_1
  clear cb1_0 cb1_1
  obtain ⟨cb0_0, cb0_1⟩ := xHC.out.below (bel_call (bel_call (bel_call (bel_call (bel_call (bel_call Hb0.out Hb1.out) Hb2.out) Hb3.out) Hb4.out) Hb5.out) Hb6.out) xlt
  obtain ⟨cb1_0, cb1_1⟩ := xxHC.out.below Hb6.out xxlt
  go_wp2_with fail
  refine (implShortest_any x _ _ _ _ _ _ xs f t _ ((xxHi1.out.new_call (bel_call Hb5.out Hb6.out) (Nat.le_refl _)).to_below (by have := (bel_call Hb5.out Hb6.out).size; omega)) ((xxHi2.out.new_call (bel_call Hb5.out Hb6.out) (Nat.le_refl _)).to_below (by have := (bel_call Hb5.out Hb6.out).size; omega)) ((xsxHi1.out.new_call (Below.refl w7.heap.size w7) (Nat.le_refl _)).to_below (by have := (Below.refl w7.heap.size w7).size; omega)) xf xsf).mono ?_
  rintro e w8 ⟨gA, gc, rfl, gi, hb7⟩
  have Hb7 := Lib.hid hb7
  have hs7 := hb7.size
  have gH := Lib.hid gi
  clear gi
  clear hb7
  clear cb0_0 cb0_1
  clear cb1_0 cb1_1
  obtain ⟨cb0_0, cb0_1⟩ := xHC.out.below (bel_call (bel_call (bel_call (bel_call (bel_call (bel_call (bel_call Hb0.out Hb1.out) Hb2.out) Hb3.out) Hb4.out) Hb5.out) Hb6.out) Hb7.out) xlt
  obtain ⟨cb1_0, cb1_1⟩ := xxHC.out.below (bel_call Hb6.out Hb7.out) xxlt
  go_wp2_with fail
  refine (eqIntS_same _ _ _ _ _ _ (IntsIn.at (gH.out.to_below (Nat.le_refl _))) (IntsIn.at ((wH.out.new_call (bel_call (bel_call (bel_call Hb4.out Hb5.out) Hb6.out) Hb7.out) (Nat.le_refl _)).to_below (by have := (bel_call (bel_call (bel_call Hb4.out Hb5.out) Hb6.out) Hb7.out).size; omega))) hlen).mono ?_
  rintro e w9 ⟨rfl, q8, rfl⟩
  have hb8 : Below w8.heap.size w8 (w8.drewN q8) := bel_drewN (Below.refl _ _) _
  have Hb8 := Lib.hid hb8
  have hs8 := hb8.size
  clear hb8
  generalize w8.drewN q8 = w9 at *
  clear cb0_0 cb0_1
  clear cb1_0 cb1_1
  obtain ⟨cb0_0, cb0_1⟩ := xHC.out.below (bel_call (bel_call (bel_call (bel_call (bel_call (bel_call (bel_call (bel_call Hb0.out Hb1.out) Hb2.out) Hb3.out) Hb4.out) Hb5.out) Hb6.out) Hb7.out) Hb8.out) xlt
  obtain ⟨cb1_0, cb1_1⟩ := xxHC.out.below (bel_call (bel_call Hb6.out Hb7.out) Hb8.out) xxlt
  go_wp2_with fail
  clear cb0_0 cb0_1
  clear cb1_0 cb1_1
  have hC : ∀ w', Below w9.heap.size w9 w' → Net2 w' w.heap.size x xA xca xL xcl := fun w' hb => xHC.out.below (bel_call (bel_call (bel_call (bel_call (bel_call (bel_call (bel_call (bel_call (bel_call Hb0.out Hb1.out) Hb2.out) Hb3.out) Hb4.out) Hb5.out) Hb6.out) Hb7.out) Hb8.out) hb) xlt
  have hD : ∀ w', Below w9.heap.size w9 w' → Net2 w' w5.heap.size x (some ⟨xxg, 0, none⟩) x.stops.length (some ⟨xxh, 0, none⟩) x.lines.length := fun w' hb => xxHC.out.below (bel_call (bel_call (bel_call Hb6.out Hb7.out) Hb8.out) hb) xxlt
  unfold Net2 at hC hD
  go_region_held3 (fun w' => Below w9.heap.size w9 w') (repeat' first | assumption | exact Nat.le_refl _ | exact Below.refl _ _ | (refine bel_drew ?_) | (refine bel_alloc ?_ _) | (refine bel_set ?_ ?_ _))
    (first
      | (go_at_call 7; refine (toNetwork_new x _ _ _ _ _ (xHh1.out.call (bel_call (bel_call (bel_call (bel_call (bel_call (bel_call (bel_call (bel_call (bel_call Hb0.out Hb1.out) Hb2.out) Hb3.out) Hb4.out) Hb5.out) Hb6.out) Hb7.out) Hb8.out) ‹Below w9.heap.size w9 _›)) (xHh2.out.call (bel_call (bel_call (bel_call (bel_call (bel_call (bel_call (bel_call (bel_call (bel_call Hb0.out Hb1.out) Hb2.out) Hb3.out) Hb4.out) Hb5.out) Hb6.out) Hb7.out) Hb8.out) ‹Below w9.heap.size w9 _›)) xf).mono ?_; rintro e wp ⟨mg, mh, rfl, _, _, _, mi1, mi2, hb5⟩; have hB5 := bel_call ‹Below w9.heap.size w9 _› hb5; have Mi1 := Lib.hid (mi1.to_below (Nat.le_refl _)); have Mi2 := Lib.hid (mi2.to_below (Nat.le_refl _)); clear mi1 mi2 hb5)
      | (go_at_call 11; refine (eqNetwork_same x _ _ _ _ _ _ _ _ _ (((xxHi1.out.new_call (bel_call (bel_call (bel_call Hb5.out Hb6.out) Hb7.out) Hb8.out) (Nat.le_refl _)).to_below (by have := (bel_call (bel_call (bel_call Hb5.out Hb6.out) Hb7.out) Hb8.out).size; omega)).call ‹Below w9.heap.size w9 _›) (((xxHi2.out.new_call (bel_call (bel_call (bel_call Hb5.out Hb6.out) Hb7.out) Hb8.out) (Nat.le_refl _)).to_below (by have := (bel_call (bel_call (bel_call Hb5.out Hb6.out) Hb7.out) Hb8.out).size; omega)).call ‹Below w9.heap.size w9 _›) Mi1.out Mi2.out xf).mono ?_; rintro e wq ⟨rfl, hb6⟩; have hB6 := bel_call ‹Below w9.heap.size w9 wp› hb6; clear hb6))
  all_goals
    clear hC hD
    have Hb9 := Lib.hid hB6
    have hs9 := hB6.size
    clear hB6 hB5
    generalize wq = w10 at *
    obtain ⟨cb0_0, cb0_1⟩ := xHC.out.below (bel_call (bel_call (bel_call (bel_call (bel_call (bel_call (bel_call (bel_call (bel_call Hb0.out Hb1.out) Hb2.out) Hb3.out) Hb4.out) Hb5.out) Hb6.out) Hb7.out) Hb8.out) Hb9.out) xlt
    obtain ⟨cb1_0, cb1_1⟩ := xxHC.out.below (bel_call (bel_call (bel_call Hb6.out Hb7.out) Hb8.out) Hb9.out) xxlt
    go_wp2_with fail
    refine (toWalkS_new _ _ xs _ (xsHh1.out.call (bel_call (bel_call (bel_call (bel_call (bel_call (bel_call (bel_call (bel_call (bel_call Hb0.out Hb1.out) Hb2.out) Hb3.out) Hb4.out) Hb5.out) Hb6.out) Hb7.out) Hb8.out) Hb9.out)) xsf).mono ?_
    rintro e w11 ⟨mg, rfl, _, _, mi1, hb10⟩
    have Hb10 := Lib.hid hb10
    have hs10 := hb10.size
    have Mi1 := Lib.hid (mi1.to_below (Nat.le_refl _))
    clear mi1
    clear hb10
    clear cb0_0 cb0_1
    clear cb1_0 cb1_1
    obtain ⟨cb0_0, cb0_1⟩ := xHC.out.below (bel_call (bel_call (bel_call (bel_call (bel_call (bel_call (bel_call (bel_call (bel_call (bel_call Hb0.out Hb1.out) Hb2.out) Hb3.out) Hb4.out) Hb5.out) Hb6.out) Hb7.out) Hb8.out) Hb9.out) Hb10.out) xlt
    obtain ⟨cb1_0, cb1_1⟩ := xxHC.out.below (bel_call (bel_call (bel_call (bel_call Hb6.out Hb7.out) Hb8.out) Hb9.out) Hb10.out) xxlt
    go_wp2_with fail
    refine (eqWalkS_same _ _ _ _ xs _ ((xsxHi1.out.new_call (bel_call (bel_call (bel_call Hb7.out Hb8.out) Hb9.out) Hb10.out) (Nat.le_refl _)).to_below (by have := (bel_call (bel_call (bel_call Hb7.out Hb8.out) Hb9.out) Hb10.out).size; omega)) Mi1.out xsf).mono ?_
    rintro e w12 ⟨rfl, hb11⟩
    have Hb11 := Lib.hid hb11
    have hs11 := hb11.size
    clear Mi1
    clear hb11
    clear cb0_0 cb0_1
    clear cb1_0 cb1_1
    obtain ⟨cb0_0, cb0_1⟩ := xHC.out.below (bel_call (bel_call (bel_call (bel_call (bel_call (bel_call (bel_call (bel_call (bel_call (bel_call (bel_call Hb0.out Hb1.out) Hb2.out) Hb3.out) Hb4.out) Hb5.out) Hb6.out) Hb7.out) Hb8.out) Hb9.out) Hb10.out) Hb11.out) xlt
    obtain ⟨cb1_0, cb1_1⟩ := xxHC.out.below (bel_call (bel_call (bel_call (bel_call (bel_call Hb6.out Hb7.out) Hb8.out) Hb9.out) Hb10.out) Hb11.out) xxlt
    have hw0 := HB0.out.size
    go_wp2_with fail
    have hmk := markNetwork_any w4.heap.size w5.heap.size x _ _ x.stops.length x.lines.length 1 _ (xxHi1.out.new_call (bel_call (bel_call (bel_call (bel_call (bel_call (bel_call Hb5.out Hb6.out) Hb7.out) Hb8.out) Hb9.out) Hb10.out) Hb11.out) (Nat.le_refl _)) (xxHi2.out.new_call (bel_call (bel_call (bel_call (bel_call (bel_call (bel_call Hb5.out Hb6.out) Hb7.out) Hb8.out) Hb9.out) Hb10.out) Hb11.out) (Nat.le_refl _)) (by have := (bel_call (bel_call (bel_call (bel_call (bel_call (bel_call Hb5.out Hb6.out) Hb7.out) Hb8.out) Hb9.out) Hb10.out) Hb11.out).size; omega) xhn (by omega) (by omega)
    push_cast at hmk
    refine hmk.mono ?_
    rintro e w13 ⟨rfl, hm12⟩
    clear hmk
    have HB13 : Hid (Below w.heap.size w w13) := Lib.hid ((bel_of HB0.out (by have := HB0.out.size; omega) (bel_call (bel_call (bel_call (bel_call (bel_call (bel_call (bel_call (bel_call (bel_call (bel_call (bel_call Hb0.out Hb1.out) Hb2.out) Hb3.out) Hb4.out) Hb5.out) Hb6.out) Hb7.out) Hb8.out) Hb9.out) Hb10.out) Hb11.out)).trans ((hm12.below (by have := (bel_call (bel_call (bel_call (bel_call (bel_call (bel_call (bel_call Hb4.out Hb5.out) Hb6.out) Hb7.out) Hb8.out) Hb9.out) Hb10.out) Hb11.out).size; omega)).mono (by have := HB0.out.size; have := (bel_call (bel_call (bel_call Hb0.out Hb1.out) Hb2.out) Hb3.out).size; omega)))
    have HA13 : Hid (Below w0.heap.size w0 w13) := Lib.hid ((bel_call (bel_call (bel_call (bel_call (bel_call (bel_call (bel_call (bel_call (bel_call (bel_call (bel_call Hb0.out Hb1.out) Hb2.out) Hb3.out) Hb4.out) Hb5.out) Hb6.out) Hb7.out) Hb8.out) Hb9.out) Hb10.out) Hb11.out).trans ((hm12.below (by have := (bel_call (bel_call (bel_call (bel_call (bel_call (bel_call (bel_call Hb4.out Hb5.out) Hb6.out) Hb7.out) Hb8.out) Hb9.out) Hb10.out) Hb11.out).size; omega)).mono (bel_call (bel_call (bel_call Hb0.out Hb1.out) Hb2.out) Hb3.out).size))
    have wH13 := Lib.hid ((wH.out.new_call (bel_call (bel_call (bel_call (bel_call (bel_call (bel_call (bel_call Hb4.out Hb5.out) Hb6.out) Hb7.out) Hb8.out) Hb9.out) Hb10.out) Hb11.out) (Nat.le_refl _)).keep fun c hc => hm12.same (.inl (by have := hc.2; have := (Below.refl w4.heap.size w4).size; omega)) (by have := hc.2; have := (bel_call (bel_call (bel_call (bel_call (bel_call (bel_call (bel_call Hb4.out Hb5.out) Hb6.out) Hb7.out) Hb8.out) Hb9.out) Hb10.out) Hb11.out).size; omega))
    have gH13 := Lib.hid ((gH.out.new_call (bel_call (bel_call (bel_call Hb8.out Hb9.out) Hb10.out) Hb11.out) (Nat.le_refl _)).keep fun c hc => hm12.same (.inr (by have := hc.1; have := (bel_call Hb5.out Hb6.out).size; omega)) (by have := hc.2; have := (bel_call (bel_call (bel_call Hb8.out Hb9.out) Hb10.out) Hb11.out).size; omega))
    have xsM13_0 := Lib.hid ((xsxHi1.out.new_call (bel_call (bel_call (bel_call (bel_call Hb7.out Hb8.out) Hb9.out) Hb10.out) Hb11.out) (Nat.le_refl _)).keep fun c hc => hm12.same (.inr (by have := hc.1; have := Hb5.out.size; omega)) (by have := hc.2; have := (bel_call (bel_call (bel_call (bel_call Hb7.out Hb8.out) Hb9.out) Hb10.out) Hb11.out).size; omega))
    have hsz12 := hm12.size
    have hcn12 := cntN_le x
    clear hm12
    skip
    clear cb0_0 cb0_1
    clear cb1_0 cb1_1
    go_wp2_with fail
    have hmk := markWalkS_any w6.heap.size w7.heap.size _ xs.length xs (1 + (cntN x)) _ xsM13_0.out xsf (by omega)
    push_cast at hmk
    refine hmk.mono ?_
    rintro e w14 ⟨rfl, hm13⟩
    clear hmk
    have HB14 : Hid (Below w.heap.size w w14) := Lib.hid (HB13.out.trans ((hm13.below (by have := (bel_call (bel_call (bel_call (bel_call (bel_call Hb6.out Hb7.out) Hb8.out) Hb9.out) Hb10.out) Hb11.out).size; omega)).mono (by have := HB0.out.size; have := (bel_call (bel_call (bel_call (bel_call (bel_call Hb0.out Hb1.out) Hb2.out) Hb3.out) Hb4.out) Hb5.out).size; omega)))
    have HA14 : Hid (Below w0.heap.size w0 w14) := Lib.hid (HA13.out.trans ((hm13.below (by have := (bel_call (bel_call (bel_call (bel_call (bel_call Hb6.out Hb7.out) Hb8.out) Hb9.out) Hb10.out) Hb11.out).size; omega)).mono (bel_call (bel_call (bel_call (bel_call (bel_call Hb0.out Hb1.out) Hb2.out) Hb3.out) Hb4.out) Hb5.out).size))
    have wH14 := Lib.hid (wH13.out.keep fun c hc => hm13.same (.inl (by have := hc.2; have := (bel_call Hb4.out Hb5.out).size; omega)) (by have := hc.2; have := (bel_call (bel_call (bel_call (bel_call (bel_call (bel_call (bel_call Hb4.out Hb5.out) Hb6.out) Hb7.out) Hb8.out) Hb9.out) Hb10.out) Hb11.out).size; omega))
    have gH14 := Lib.hid (gH13.out.keep fun c hc => hm13.same (.inr (by have := hc.1; have := (Below.refl w7.heap.size w7).size; omega)) (by have := hc.2; have := (bel_call (bel_call (bel_call Hb8.out Hb9.out) Hb10.out) Hb11.out).size; omega))
    have hsz13 := hm13.size
    skip
    clear hm13
    skip
    have hkk : decide ((1 : Int) + ((cntN x : Nat) : Int) + ((3 * xs.length : Nat) : Int) < 0) = false := by simp; omega
    push_cast at hkk
    obtain ⟨cb0_0, cb0_1⟩ := xHC.out.below HA14.out xlt
    go_wp2_with fail
    refine (eqIntS_same _ _ _ _ _ _ (IntsIn.at (gH14.out.to_below (by have := (bel_call (bel_call (bel_call Hb8.out Hb9.out) Hb10.out) Hb11.out).size; omega))) (IntsIn.at (wH14.out.to_below (by have := (bel_call (bel_call (bel_call (bel_call (bel_call (bel_call (bel_call Hb4.out Hb5.out) Hb6.out) Hb7.out) Hb8.out) Hb9.out) Hb10.out) Hb11.out).size; omega))) hlen).mono ?_
    rintro e w15 ⟨rfl, q14, rfl⟩
    go_wp2_with fail
    have hmm := markIntS_any w7.heap.size w8.heap.size gA gc _ 1 (w14.drewN q14) (Sl.keep (w' := w14.drewN q14) gH14.out (fun c _ o => ⟨rfl, rfl⟩)) hlen (by omega)
    push_cast at hmm
    refine hmm.mono ?_
    rintro e w15 ⟨rfl, hm, gi3⟩
    have GH := Lib.hid gi3
    have HBn : Hid (Below w.heap.size w w15) := Lib.hid ((bel_drewN HB14.out q14).trans ((hm.below (by show _ ≤ w14.heap.size; have := (bel_call (bel_call (bel_call (bel_call Hb7.out Hb8.out) Hb9.out) Hb10.out) Hb11.out).size; omega)).mono (by have := HB0.out.size; have := (bel_call (bel_call (bel_call (bel_call (bel_call (bel_call Hb0.out Hb1.out) Hb2.out) Hb3.out) Hb4.out) Hb5.out) Hb6.out).size; omega)))
    have HAn : Hid (Below w0.heap.size w0 w15) := Lib.hid ((bel_drewN HA14.out q14).trans ((hm.below (by show _ ≤ w14.heap.size; have := (bel_call (bel_call (bel_call (bel_call Hb7.out Hb8.out) Hb9.out) Hb10.out) Hb11.out).size; omega)).mono (by have := (bel_call (bel_call (bel_call (bel_call (bel_call (bel_call Hb0.out Hb1.out) Hb2.out) Hb3.out) Hb4.out) Hb5.out) Hb6.out).size; omega)))
    have WH := Lib.hid ((Sl.keep (w' := w14.drewN q14) wH14.out (fun c _ o => ⟨rfl, rfl⟩)).keep fun c hc => hm.same (.inl (by have := hc.2; have := (bel_call (bel_call Hb4.out Hb5.out) Hb6.out).size; omega)) (by show _ < w14.heap.size; have := hc.2; have := (bel_call (bel_call (bel_call (bel_call (bel_call (bel_call (bel_call Hb4.out Hb5.out) Hb6.out) Hb7.out) Hb8.out) Hb9.out) Hb10.out) Hb11.out).size; omega))
    have hsn : w14.heap.size ≤ w15.heap.size := hm.size
    clear hm gi3 hmm
    have hkr : decide ((1 : Int) + ((swI x xs f t).length : Nat) < 0) = false := by simp; omega
    clear cb0_0 cb0_1
    obtain ⟨cb0_0, cb0_1⟩ := xHC.out.below HAn.out xlt
    go_wp2_with fail
    have hhd := heldIntS_any gA gc _ 1 w15 _ GH.out hlen (by omega)
    push_cast at hhd
    refine hhd.mono ?_
    rintro e w16 ⟨rfl, rfl⟩
    clear hhd
    go_wp2_with fail
    refine (toNetwork_new x _ _ _ _ _ (xHh1.out.call HAn.out) (xHh2.out.call HAn.out) xf).mono ?_
    rintro e y1 ⟨xyg, xyh, rfl, _, _, _, xyi1, xyi2, hy1⟩
    have xyHi1 := Lib.hid (xyi1.to_below (Nat.le_refl _))
    have xyHi2 := Lib.hid (xyi2.to_below (Nat.le_refl _))
    have Hy1 := Lib.hid hy1
    have hys10 := hy1.size
    clear hy1 xyi1 xyi2
    clear cb0_0 cb0_1
    go_wp2_with fail
    refine (toWalkS_new _ _ xs _ (xsHh1.out.call (bel_call HAn.out Hy1.out)) xsf).mono ?_
    rintro e y1a ⟨xsyg, rfl, _, _, xsyi1, hy1⟩
    have xyHi1n := Lib.hid (xyHi1.out.call hy1)
    have xyHi2n := Lib.hid (xyHi2.out.call hy1)
    have xsyHi1 := Lib.hid (xsyi1.to_below (Nat.le_refl _))
    have Hy1a := Lib.hid (bel_call Hy1.out hy1)
    have hys11 := hy1.size
    clear hy1 xsyi1
    go_wp2_with fail
    refine (implShortest_any x _ _ _ _ _ _ xs f t _ xyHi1n.out xyHi2n.out xsyHi1.out xf xsf).mono ?_
    rintro e y2 ⟨hA, hc, rfl, hi, hy2⟩
    have hH := Lib.hid hi
    have Hy2 := Lib.hid (bel_call Hy1a.out hy2)
    have hys2 := hy2.size
    clear hi hy2
    go_wp2_with fail
    refine (eqIntS_same _ _ _ _ _ _ (IntsIn.at (hH.out.to_below (Nat.le_refl _))) (IntsIn.at ((WH.out.new_call Hy2.out (by have := (bel_call (bel_call (bel_call (bel_call (bel_call (bel_call (bel_call Hb4.out Hb5.out) Hb6.out) Hb7.out) Hb8.out) Hb9.out) Hb10.out) Hb11.out).size; omega)).to_below (by have := (bel_call (bel_call (bel_call (bel_call (bel_call (bel_call (bel_call Hb4.out Hb5.out) Hb6.out) Hb7.out) Hb8.out) Hb9.out) Hb10.out) Hb11.out).size; omega))) hlen).mono ?_
    rintro e y3 ⟨rfl, qy, rfl⟩
    go_wp2_with fail
    have hhd := heldIntS_any gA gc _ 1 (y2.drewN qy) _ (Sl.keep (w' := y2.drewN qy) (GH.out.new_call Hy2.out (by have := (bel_call (bel_call (bel_call Hb8.out Hb9.out) Hb10.out) Hb11.out).size; omega)) (fun c _ o => ⟨rfl, rfl⟩)) hlen (by omega)
    push_cast at hhd
    refine hhd.mono ?_
    rintro e y4 ⟨rfl, rfl⟩
    clear hhd
    go_wp2_with fail
    go_ret
    exact ⟨rfl, bel_drewN (bel_of HBn.out (by have := HBn.out.size; omega) Hy2.out) _⟩

end Go.Proofs.Ytemhcobjhpifpaa
