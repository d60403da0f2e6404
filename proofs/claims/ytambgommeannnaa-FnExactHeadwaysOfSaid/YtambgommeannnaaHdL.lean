/- The walk of the law of HeadwaysOf. -/
import Derived.Test.YtambgommeannnaaHdw
import Derived.Test.YtambgommeannnaaHds
import Derived.Test.YtambgommeannnaaTtm
namespace Go.Proofs.Ytambgommeannnaa
open Go.ChangeShapes Go.WideShapes Go.ChangeAt Go.RowKit Go.PlainAid
set_option linter.unusedVariables false
set_option linter.unusedSimpArgs false

set_option maxRecDepth 100000 in
set_option maxHeartbeats 4000000 in
theorem fnHeadwaysOf_walk (vx : Value) (x : TTD) (l : Int) (wl : (Lit.int .i64 l).wf = true) (w : World) (hx : LTt w vx x) :
    Calls Try.prog 12 #[vx, .int .i64 l] w fun e w' => e = .returned (.bool true) ∧ Below w.heap.size w w' := by
  obtain ⟨xA, xca, xL, xcl, xT, xct, rfl, xh1, xh2, xh3, xl1, xl2, xl3, xl4, xl5⟩ := hx
  try clear wl
  have hb0 : Below w.heap.size w (w.alloc (.cells #[.slice xA x.net.stops.length xca, .slice xL x.net.lines.length xcl, .slice xT x.trips.length xct] 39)) := by go_grown
  have xHh1 := Lib.hid (xh1.call hb0)
  have xHh2 := Lib.hid (xh2.call hb0)
  have xHh3 := Lib.hid (xh3.call hb0)
  clear xh1 xh2 xh3
  have xHC : Hid (Tt3 (w.alloc (.cells #[.slice xA x.net.stops.length xca, .slice xL x.net.lines.length xcl, .slice xT x.trips.length xct] 39)) w.heap.size x xA xca xL xcl xT xct) := Lib.hid (by refine ⟨?_, ?_, ?_⟩ <;> go_simp)
  have xlt : w.heap.size < (w.alloc (.cells #[.slice xA x.net.stops.length xca, .slice xL x.net.lines.length xcl, .slice xT x.trips.length xct] 39)).heap.size := by simp <;> omega
  have HB0 := Lib.hid hb0
  clear hb0
  by_cases xhz : szI (szTT x) 1048576 < 0
  · skip
    go_enter Try.func12, Try.ntmps12
    go_wp2_with fail
    generalize (w.alloc (.cells #[.slice xA x.net.stops.length xca, .slice xL x.net.lines.length xcl, .slice xT x.trips.length xct] 39)) = w0 at *
    obtain ⟨cb0_0, cb0_1, cb0_2⟩ := xHC.out.below (Below.refl w0.heap.size w0) xlt
    go_wp2_with fail
    refine (szTimetable_any x _ _ _ _ _ _ _ _ (xHh1.out.call (Below.refl w0.heap.size w0)) (xHh2.out.call (Below.refl w0.heap.size w0)) (by omega) (by omega) xl1 xl2 xl3 xl4 xl5).mono ?_
    rintro e w1 ⟨rfl, hb0⟩
    have Hb0 := Lib.hid hb0
    have hs0 := hb0.size
    clear hb0
    clear cb0_0 cb0_1 cb0_2
    obtain ⟨cb0_0, cb0_1, cb0_2⟩ := xHC.out.below Hb0.out xlt
    go_wp2_with fail
    go_ret
    exact ⟨rfl, (bel_of HB0.out (by have := HB0.out.size; omega) Hb0.out)⟩
  have xhn := szNet_le xhz (by omega)
  have xf := fitsT_le xhn
  have xle : szI (szTT x) 1048576 ≤ 1048576 := szI_le (by omega)
  have hlen : (hwI x l).length ≤ 1048576 := Nat.le_trans (hwI_len x l) xf.trips
  go_enter Try.func12, Try.ntmps12
  go_wp2_with fail
  generalize (w.alloc (.cells #[.slice xA x.net.stops.length xca, .slice xL x.net.lines.length xcl, .slice xT x.trips.length xct] 39)) = w0 at *
  obtain ⟨cb0_0, cb0_1, cb0_2⟩ := xHC.out.below (Below.refl w0.heap.size w0) xlt
  go_wp2_with fail
  refine (szTimetable_any x _ _ _ _ _ _ _ _ (xHh1.out.call (Below.refl w0.heap.size w0)) (xHh2.out.call (Below.refl w0.heap.size w0)) (by omega) (by omega) xl1 xl2 xl3 xl4 xl5).mono ?_
  rintro e w1 ⟨rfl, hb0⟩
  have Hb0 := Lib.hid hb0
  have hs0 := hb0.size
  clear hb0
  clear cb0_0 cb0_1 cb0_2
  obtain ⟨cb0_0, cb0_1, cb0_2⟩ := xHC.out.below Hb0.out xlt
  clear xl1 xl2 xl3 xl4 xl5
  go_wp2_with fail
  refine (toTimetable_new x _ _ _ _ _ _ _ (xHh1.out.call Hb0.out) (xHh2.out.call Hb0.out) (xHh3.out.call Hb0.out) xf).mono ?_
  rintro e w2 ⟨xsg, xsh, xsk, rfl, xsi1, xsi2, xsi3, hb1⟩
  have Hb1 := Lib.hid hb1
  have hs1 := hb1.size
  have xsHi1 := Lib.hid (xsi1.to_below (Nat.le_refl _))
  have xsHi2 := Lib.hid (xsi2.to_below (Nat.le_refl _))
  have xsHi3 := Lib.hid (xsi3.to_below (Nat.le_refl _))
  clear xsi1 xsi2 xsi3
  clear hb1
  clear cb0_0 cb0_1 cb0_2
  obtain ⟨cb0_0, cb0_1, cb0_2⟩ := xHC.out.below (bel_call Hb0.out Hb1.out) xlt
  go_wp2_with fail
  refine (specHeadwaysOf_any x _ _ _ _ _ _ l _ (xsHi1.out.call (Below.refl w2.heap.size w2)) (xsHi2.out.call (Below.refl w2.heap.size w2)) (xsHi3.out.call (Below.refl w2.heap.size w2)) xf).mono ?_
  rintro e w3 ⟨wA, wc, rfl, wi, hb2⟩
  have Hb2 := Lib.hid hb2
  have hs2 := hb2.size
  have wH := Lib.hid wi
  clear wi
  clear hb2
  clear cb0_0 cb0_1 cb0_2
  obtain ⟨cb0_0, cb0_1, cb0_2⟩ := xHC.out.below (bel_call (bel_call Hb0.out Hb1.out) Hb2.out) xlt
  go_wp2_with fail
  refine (toTimetable_new x _ _ _ _ _ _ _ (xHh1.out.call (bel_call (bel_call Hb0.out Hb1.out) Hb2.out)) (xHh2.out.call (bel_call (bel_call Hb0.out Hb1.out) Hb2.out)) (xHh3.out.call (bel_call (bel_call Hb0.out Hb1.out) Hb2.out)) xf).mono ?_
  rintro e w4 ⟨xxg, xxh, xxk, rfl, xxi1, xxi2, xxi3, hb3⟩
  have Hb3 := Lib.hid hb3
  have hs3 := hb3.size
  have xxHi1 := Lib.hid xxi1
  have xxHi2 := Lib.hid xxi2
  have xxHi3 := Lib.hid xxi3
  clear xxi1 xxi2 xxi3
  clear hb3
  clear cb0_0 cb0_1 cb0_2
  obtain ⟨cb0_0, cb0_1, cb0_2⟩ := xHC.out.below (bel_call (bel_call (bel_call Hb0.out Hb1.out) Hb2.out) Hb3.out) xlt
  go_wp2_with fail
  have hb4 : Below w4.heap.size w4 (w4.alloc (.cells #[.slice (some ⟨xxg, 0, none⟩) x.net.stops.length x.net.stops.length, .slice (some ⟨xxh, 0, none⟩) x.net.lines.length x.net.lines.length, .slice (some ⟨xxk, 0, none⟩) x.trips.length x.trips.length] 49)) := by go_grown
  have Hb4 := Lib.hid hb4
  have hs4 := hb4.size
  have xxHC : Hid (Tt3 (w4.alloc (.cells #[.slice (some ⟨xxg, 0, none⟩) x.net.stops.length x.net.stops.length, .slice (some ⟨xxh, 0, none⟩) x.net.lines.length x.net.lines.length, .slice (some ⟨xxk, 0, none⟩) x.trips.length x.trips.length] 49)) w4.heap.size x (some ⟨xxg, 0, none⟩) x.net.stops.length (some ⟨xxh, 0, none⟩) x.net.lines.length (some ⟨xxk, 0, none⟩) x.trips.length) := Lib.hid (by refine ⟨?_, ?_, ?_⟩ <;> go_simp)
  have xxlt : w4.heap.size < (w4.alloc (.cells #[.slice (some ⟨xxg, 0, none⟩) x.net.stops.length x.net.stops.length, .slice (some ⟨xxh, 0, none⟩) x.net.lines.length x.net.lines.length, .slice (some ⟨xxk, 0, none⟩) x.trips.length x.trips.length] 49)).heap.size := by simp
  clear hb4
  generalize (w4.alloc (.cells #[.slice (some ⟨xxg, 0, none⟩) x.net.stops.length x.net.stops.length, .slice (some ⟨xxh, 0, none⟩) x.net.lines.length x.net.lines.length, .slice (some ⟨xxk, 0, none⟩) x.trips.length x.trips.length] 49)) = w5 at *
  clear cb0_0 cb0_1 cb0_2
  obtain ⟨cb0_0, cb0_1, cb0_2⟩ := xHC.out.below (bel_call (bel_call (bel_call (bel_call Hb0.out Hb1.out) Hb2.out) Hb3.out) Hb4.out) xlt
  obtain ⟨cb1_0, cb1_1, cb1_2⟩ := xxHC.out.below (Below.refl w5.heap.size w5) xxlt
  go_wp2_with fail
  refine (implHeadwaysOf_any x _ _ _ _ _ _ l _ ((xxHi1.out.new_call Hb4.out (Nat.le_refl _)).to_below (by have := Hb4.out.size; omega)) ((xxHi2.out.new_call Hb4.out (Nat.le_refl _)).to_below (by have := Hb4.out.size; omega)) ((xxHi3.out.new_call Hb4.out (Nat.le_refl _)).to_below (by have := Hb4.out.size; omega)) xf).mono ?_
  rintro e w6 ⟨gA, gc, rfl, gi, hb5⟩
  have Hb5 := Lib.hid hb5
  have hs5 := hb5.size
  have gH := Lib.hid gi
  clear gi
  clear hb5
  clear cb0_0 cb0_1 cb0_2
  clear cb1_0 cb1_1 cb1_2
  obtain ⟨cb0_0, cb0_1, cb0_2⟩ := xHC.out.below (bel_call (bel_call (bel_call (bel_call (bel_call Hb0.out Hb1.out) Hb2.out) Hb3.out) Hb4.out) Hb5.out) xlt
  obtain ⟨cb1_0, cb1_1, cb1_2⟩ := xxHC.out.below Hb5.out xxlt
  go_wp2_with fail
  refine (eqIntS_same _ _ _ _ _ _ (IntsIn.at (gH.out.to_below (Nat.le_refl _))) (IntsIn.at ((wH.out.new_call (bel_call (bel_call Hb3.out Hb4.out) Hb5.out) (Nat.le_refl _)).to_below (by have := (bel_call (bel_call Hb3.out Hb4.out) Hb5.out).size; omega))) hlen).mono ?_
  rintro e w7 ⟨rfl, q6, rfl⟩
  have hb6 : Below w6.heap.size w6 (w6.drewN q6) := bel_drewN (Below.refl _ _) _
  have Hb6 := Lib.hid hb6
  have hs6 := hb6.size
  clear hb6
  generalize w6.drewN q6 = w7 at *
  clear cb0_0 cb0_1 cb0_2
  clear cb1_0 cb1_1 cb1_2
  obtain ⟨cb0_0, cb0_1, cb0_2⟩ := xHC.out.below (bel_call (bel_call (bel_call (bel_call (bel_call (bel_call Hb0.out Hb1.out) Hb2.out) Hb3.out) Hb4.out) Hb5.out) Hb6.out) xlt
  obtain ⟨cb1_0, cb1_1, cb1_2⟩ := xxHC.out.below (bel_call Hb5.out Hb6.out) xxlt
  go_wp2_with fail
  clear cb0_0 cb0_1 cb0_2
  clear cb1_0 cb1_1 cb1_2
  have hC : ∀ w', Below w7.heap.size w7 w' → Tt3 w' w.heap.size x xA xca xL xcl xT xct := fun w' hb => xHC.out.below (bel_call (bel_call (bel_call (bel_call (bel_call (bel_call (bel_call Hb0.out Hb1.out) Hb2.out) Hb3.out) Hb4.out) Hb5.out) Hb6.out) hb) xlt
  have hD : ∀ w', Below w7.heap.size w7 w' → Tt3 w' w4.heap.size x (some ⟨xxg, 0, none⟩) x.net.stops.length (some ⟨xxh, 0, none⟩) x.net.lines.length (some ⟨xxk, 0, none⟩) x.trips.length := fun w' hb => xxHC.out.below (bel_call (bel_call Hb5.out Hb6.out) hb) xxlt
  unfold Tt3 at hC hD
  go_region_held3 (fun w' => Below w7.heap.size w7 w') (repeat' first | assumption | exact Nat.le_refl _ | exact Below.refl _ _ | (refine bel_drew ?_) | (refine bel_alloc ?_ _) | (refine bel_set ?_ ?_ _))
    (first
      | (go_at_call 25; refine (toTimetable_new x _ _ _ _ _ _ _ (xHh1.out.call (bel_call (bel_call (bel_call (bel_call (bel_call (bel_call (bel_call Hb0.out Hb1.out) Hb2.out) Hb3.out) Hb4.out) Hb5.out) Hb6.out) ‹Below w7.heap.size w7 _›)) (xHh2.out.call (bel_call (bel_call (bel_call (bel_call (bel_call (bel_call (bel_call Hb0.out Hb1.out) Hb2.out) Hb3.out) Hb4.out) Hb5.out) Hb6.out) ‹Below w7.heap.size w7 _›)) (xHh3.out.call (bel_call (bel_call (bel_call (bel_call (bel_call (bel_call (bel_call Hb0.out Hb1.out) Hb2.out) Hb3.out) Hb4.out) Hb5.out) Hb6.out) ‹Below w7.heap.size w7 _›)) xf).mono ?_; rintro e wp ⟨mg, mh, mk, rfl, mi1, mi2, mi3, hb5⟩; have hB5 := bel_call ‹Below w7.heap.size w7 _› hb5; have Mi1 := Lib.hid (mi1.to_below (Nat.le_refl _)); have Mi2 := Lib.hid (mi2.to_below (Nat.le_refl _)); have Mi3 := Lib.hid (mi3.to_below (Nat.le_refl _)); clear mi1 mi2 mi3 hb5)
      | (go_at_call 28; refine (eqTimetable_same x _ _ _ _ _ _ _ _ _ _ _ _ _ (((xxHi1.out.new_call (bel_call (bel_call Hb4.out Hb5.out) Hb6.out) (Nat.le_refl _)).to_below (by have := (bel_call (bel_call Hb4.out Hb5.out) Hb6.out).size; omega)).call ‹Below w7.heap.size w7 _›) (((xxHi2.out.new_call (bel_call (bel_call Hb4.out Hb5.out) Hb6.out) (Nat.le_refl _)).to_below (by have := (bel_call (bel_call Hb4.out Hb5.out) Hb6.out).size; omega)).call ‹Below w7.heap.size w7 _›) (((xxHi3.out.new_call (bel_call (bel_call Hb4.out Hb5.out) Hb6.out) (Nat.le_refl _)).to_below (by have := (bel_call (bel_call Hb4.out Hb5.out) Hb6.out).size; omega)).call ‹Below w7.heap.size w7 _›) Mi1.out Mi2.out Mi3.out xf).mono ?_; rintro e wq ⟨rfl, hb6⟩; have hB6 := bel_call ‹Below w7.heap.size w7 wp› hb6; clear hb6))
  all_goals
    clear hC hD
    have Hb7 := Lib.hid hB6
    have hs7 := hB6.size
    clear hB6 hB5
    generalize wq = w8 at *
    obtain ⟨cb0_0, cb0_1, cb0_2⟩ := xHC.out.below (bel_call (bel_call (bel_call (bel_call (bel_call (bel_call (bel_call Hb0.out Hb1.out) Hb2.out) Hb3.out) Hb4.out) Hb5.out) Hb6.out) Hb7.out) xlt
    obtain ⟨cb1_0, cb1_1, cb1_2⟩ := xxHC.out.below (bel_call (bel_call Hb5.out Hb6.out) Hb7.out) xxlt
    have hw0 := HB0.out.size
    go_wp2_with fail
    have hmk := markTimetable_any w3.heap.size w4.heap.size x _ _ _ x.net.stops.length x.net.lines.length x.trips.length 1 _ (xxHi1.out.new_call (bel_call (bel_call (bel_call Hb4.out Hb5.out) Hb6.out) Hb7.out) (Nat.le_refl _)) (xxHi2.out.new_call (bel_call (bel_call (bel_call Hb4.out Hb5.out) Hb6.out) Hb7.out) (Nat.le_refl _)) (xxHi3.out.new_call (bel_call (bel_call (bel_call Hb4.out Hb5.out) Hb6.out) Hb7.out) (Nat.le_refl _)) (by have := (bel_call (bel_call (bel_call Hb4.out Hb5.out) Hb6.out) Hb7.out).size; omega) xhn (by omega) (by omega)
    push_cast at hmk
    refine hmk.mono ?_
    rintro e w9 ⟨rfl, hm8⟩
    clear hmk
    have HB9 : Hid (Below w.heap.size w w9) := Lib.hid ((bel_of HB0.out (by have := HB0.out.size; omega) (bel_call (bel_call (bel_call (bel_call (bel_call (bel_call (bel_call Hb0.out Hb1.out) Hb2.out) Hb3.out) Hb4.out) Hb5.out) Hb6.out) Hb7.out)).trans ((hm8.below (by have := (bel_call (bel_call (bel_call (bel_call Hb3.out Hb4.out) Hb5.out) Hb6.out) Hb7.out).size; omega)).mono (by have := HB0.out.size; have := (bel_call (bel_call Hb0.out Hb1.out) Hb2.out).size; omega)))
    have HA9 : Hid (Below w0.heap.size w0 w9) := Lib.hid ((bel_call (bel_call (bel_call (bel_call (bel_call (bel_call (bel_call Hb0.out Hb1.out) Hb2.out) Hb3.out) Hb4.out) Hb5.out) Hb6.out) Hb7.out).trans ((hm8.below (by have := (bel_call (bel_call (bel_call (bel_call Hb3.out Hb4.out) Hb5.out) Hb6.out) Hb7.out).size; omega)).mono (bel_call (bel_call Hb0.out Hb1.out) Hb2.out).size))
    have wH9 := Lib.hid ((wH.out.new_call (bel_call (bel_call (bel_call (bel_call Hb3.out Hb4.out) Hb5.out) Hb6.out) Hb7.out) (Nat.le_refl _)).keep fun c hc => hm8.same (.inl (by have := hc.2; have := (Below.refl w3.heap.size w3).size; omega)) (by have := hc.2; have := (bel_call (bel_call (bel_call (bel_call Hb3.out Hb4.out) Hb5.out) Hb6.out) Hb7.out).size; omega))
    have gH9 := Lib.hid ((gH.out.new_call (bel_call Hb6.out Hb7.out) (Nat.le_refl _)).keep fun c hc => hm8.same (.inr (by have := hc.1; have := Hb4.out.size; omega)) (by have := hc.2; have := (bel_call Hb6.out Hb7.out).size; omega))
    have hsz8 := hm8.size
    skip
    clear hm8
    skip
    clear cb0_0 cb0_1 cb0_2
    clear cb1_0 cb1_1 cb1_2
    have hkk : decide ((1 : Int) + ((cntT x : Nat) : Int) < 0) = false := by simp; omega
    push_cast at hkk
    obtain ⟨cb0_0, cb0_1, cb0_2⟩ := xHC.out.below HA9.out xlt
    go_wp2_with fail
    refine (eqIntS_same _ _ _ _ _ _ (IntsIn.at (gH9.out.to_below (by have := (bel_call Hb6.out Hb7.out).size; omega))) (IntsIn.at (wH9.out.to_below (by have := (bel_call (bel_call (bel_call (bel_call Hb3.out Hb4.out) Hb5.out) Hb6.out) Hb7.out).size; omega))) hlen).mono ?_
    rintro e w10 ⟨rfl, q9, rfl⟩
    go_wp2_with fail
    have hmm := markIntS_any w5.heap.size w6.heap.size gA gc _ 1 (w9.drewN q9) (Sl.keep (w' := w9.drewN q9) gH9.out (fun c _ o => ⟨rfl, rfl⟩)) hlen (by omega)
    push_cast at hmm
    refine hmm.mono ?_
    rintro e w10 ⟨rfl, hm, gi3⟩
    have GH := Lib.hid gi3
    have HBn : Hid (Below w.heap.size w w10) := Lib.hid ((bel_drewN HB9.out q9).trans ((hm.below (by show _ ≤ w9.heap.size; have := (bel_call (bel_call Hb5.out Hb6.out) Hb7.out).size; omega)).mono (by have := HB0.out.size; have := (bel_call (bel_call (bel_call (bel_call Hb0.out Hb1.out) Hb2.out) Hb3.out) Hb4.out).size; omega)))
    have HAn : Hid (Below w0.heap.size w0 w10) := Lib.hid ((bel_drewN HA9.out q9).trans ((hm.below (by show _ ≤ w9.heap.size; have := (bel_call (bel_call Hb5.out Hb6.out) Hb7.out).size; omega)).mono (by have := (bel_call (bel_call (bel_call (bel_call Hb0.out Hb1.out) Hb2.out) Hb3.out) Hb4.out).size; omega)))
    have WH := Lib.hid ((Sl.keep (w' := w9.drewN q9) wH9.out (fun c _ o => ⟨rfl, rfl⟩)).keep fun c hc => hm.same (.inl (by have := hc.2; have := (bel_call Hb3.out Hb4.out).size; omega)) (by show _ < w9.heap.size; have := hc.2; have := (bel_call (bel_call (bel_call (bel_call Hb3.out Hb4.out) Hb5.out) Hb6.out) Hb7.out).size; omega))
    have hsn : w9.heap.size ≤ w10.heap.size := hm.size
    clear hm gi3 hmm
    have hkr : decide ((1 : Int) + ((hwI x l).length : Nat) < 0) = false := by simp; omega
    clear cb0_0 cb0_1 cb0_2
    obtain ⟨cb0_0, cb0_1, cb0_2⟩ := xHC.out.below HAn.out xlt
    go_wp2_with fail
    have hhd := heldIntS_any gA gc _ 1 w10 _ GH.out hlen (by omega)
    push_cast at hhd
    refine hhd.mono ?_
    rintro e w11 ⟨rfl, rfl⟩
    clear hhd
    go_wp2_with fail
    refine (toTimetable_new x _ _ _ _ _ _ _ (xHh1.out.call HAn.out) (xHh2.out.call HAn.out) (xHh3.out.call HAn.out) xf).mono ?_
    rintro e y1 ⟨xyg, xyh, xyk, rfl, xyi1, xyi2, xyi3, hy1⟩
    have xyHi1 := Lib.hid (xyi1.to_below (Nat.le_refl _))
    have xyHi2 := Lib.hid (xyi2.to_below (Nat.le_refl _))
    have xyHi3 := Lib.hid (xyi3.to_below (Nat.le_refl _))
    have Hy1 := Lib.hid hy1
    have hys10 := hy1.size
    clear hy1 xyi1 xyi2 xyi3
    clear cb0_0 cb0_1 cb0_2
    go_wp2_with fail
    refine (implHeadwaysOf_any x _ _ _ _ _ _ l _ xyHi1.out xyHi2.out xyHi3.out xf).mono ?_
    rintro e y2 ⟨hA, hc, rfl, hi, hy2⟩
    have hH := Lib.hid hi
    have Hy2 := Lib.hid (bel_call Hy1.out hy2)
    have hys2 := hy2.size
    clear hi hy2
    go_wp2_with fail
    refine (eqIntS_same _ _ _ _ _ _ (IntsIn.at (hH.out.to_below (Nat.le_refl _))) (IntsIn.at ((WH.out.new_call Hy2.out (by have := (bel_call (bel_call (bel_call (bel_call Hb3.out Hb4.out) Hb5.out) Hb6.out) Hb7.out).size; omega)).to_below (by have := (bel_call (bel_call (bel_call (bel_call Hb3.out Hb4.out) Hb5.out) Hb6.out) Hb7.out).size; omega))) hlen).mono ?_
    rintro e y3 ⟨rfl, qy, rfl⟩
    go_wp2_with fail
    have hhd := heldIntS_any gA gc _ 1 (y2.drewN qy) _ (Sl.keep (w' := y2.drewN qy) (GH.out.new_call Hy2.out (by have := (bel_call Hb6.out Hb7.out).size; omega)) (fun c _ o => ⟨rfl, rfl⟩)) hlen (by omega)
    push_cast at hhd
    refine hhd.mono ?_
    rintro e y4 ⟨rfl, rfl⟩
    clear hhd
    go_wp2_with fail
    go_ret
    exact ⟨rfl, bel_drewN (bel_of HBn.out (by have := HBn.out.size; omega) Hy2.out) _⟩

end Go.Proofs.Ytambgommeannnaa
