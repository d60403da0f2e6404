/- The walk of the law of DeparturesAt. -/
import Derived.Test.YtambgommeannnaaDpi
import Derived.Test.YtambgommeannnaaDps
import Derived.Test.YtambgommeannnaaTtm
namespace Go.Proofs.Ytambgommeannnaa
open Go.ChangeShapes Go.WideShapes Go.ChangeAt Go.RowKit Go.PlainAid
set_option linter.unusedVariables false
set_option linter.unusedSimpArgs false

set_option maxRecDepth 100000 in
set_option maxHeartbeats 4000000 in
theorem fnDeparturesAt_walk (vx : Value) (x : TTD) (s : Int) (ws : (Lit.int .i64 s).wf = true) (f : Int) (wf : (Lit.int .i64 f).wf = true) (w : World) (hx : LTt w vx x) :
    Calls Try.prog 4 #[vx, .int .i64 s, .int .i64 f] w fun e w' => e = .returned (.bool true) ∧ Below w.heap.size w w' := by
  obtain ⟨xA, xca, xL, xcl, xT, xct, rfl, xh1, xh2, xh3, xl1, xl2, xl3, xl4, xl5⟩ := hx
  have swf := ws
  try clear ws
  have fwf := wf
  try clear wf
  have hb0 : Below w.heap.size w (w.alloc (.cells #[.slice xA x.net.stops.length xca, .slice xL x.net.lines.length xcl, .slice xT x.trips.length xct] 39)) := by go_grown
  have xHh1 := Lib.hid ((xh1.call hb0).mono (Zone.below_le (Nat.le_refl (w.alloc (.cells #[.slice xA x.net.stops.length xca, .slice xL x.net.lines.length xcl, .slice xT x.trips.length xct] 39)).heap.size)))
  have xHh2 := Lib.hid ((xh2.call hb0).mono (Zone.below_le (Nat.le_refl (w.alloc (.cells #[.slice xA x.net.stops.length xca, .slice xL x.net.lines.length xcl, .slice xT x.trips.length xct] 39)).heap.size)))
  have xHh3 := Lib.hid ((xh3.call hb0).mono (Zone.below_le (Nat.le_refl (w.alloc (.cells #[.slice xA x.net.stops.length xca, .slice xL x.net.lines.length xcl, .slice xT x.trips.length xct] 39)).heap.size)))
  clear xh1 xh2 xh3
  have xHC : Hid (Tt3 (w.alloc (.cells #[.slice xA x.net.stops.length xca, .slice xL x.net.lines.length xcl, .slice xT x.trips.length xct] 39)) w.heap.size x xA xca xL xcl xT xct) := Lib.hid (by refine ⟨?_, ?_, ?_⟩ <;> go_simp)
  have xlt : w.heap.size < (w.alloc (.cells #[.slice xA x.net.stops.length xca, .slice xL x.net.lines.length xcl, .slice xT x.trips.length xct] 39)).heap.size := by simp
  have HB := Lib.hid hb0
  have hw0 : w.heap.size ≤ (w.alloc (.cells #[.slice xA x.net.stops.length xca, .slice xL x.net.lines.length xcl, .slice xT x.trips.length xct] 39)).heap.size := hb0.size
  clear hb0
  by_cases xhz : szI (szTT x) 1048576 < 0
  · skip
    go_enter Try.func4, Try.ntmps4
    go_wp2_with fail
    generalize (w.alloc (.cells #[.slice xA x.net.stops.length xca, .slice xL x.net.lines.length xcl, .slice xT x.trips.length xct] 39)) = w0 at *
    obtain ⟨cb0_0, cb0_1, cb0_2⟩ := xHC.out
    have cl0 : w.heap.size < w0.heap.size := by omega
    go_wp2_with fail
    refine (szTimetable_any x _ _ _ _ _ _ _ _ (xHh1.out.mono (Zone.below_le (by omega))) (xHh2.out.mono (Zone.below_le (by omega))) (by omega) (by omega) xl1 xl2 xl3 xl4 xl5).mono ?_
    rintro e w1 ⟨rfl, hb⟩
    have hs0 := hb.size
    have hq : Below w0.heap.size w0 w1 := hb.mono (by omega)
    replace HB := Lib.hid (HB.out.trans (hq.mono hw0))
    replace xHh1 := Lib.hid (xHh1.out.at_below hq)
    replace xHh2 := Lib.hid (xHh2.out.at_below hq)
    replace xHh3 := Lib.hid (xHh3.out.at_below hq)
    replace xHC := Lib.hid (xHC.out.below hq xlt)
    clear hq
    clear hb
    clear cb0_0 cb0_1 cb0_2
    clear cl0
    go_wp2_with fail
    go_ret
    exact ⟨rfl, HB.out⟩
  have xhn := szNet_le xhz (by omega)
  have xf := fitsT_le xhn
  have xle : szI (szTT x) 1048576 ≤ 1048576 := szI_le (by omega)
  have rlen : (dpL x s f).length ≤ 1048576 := Nat.le_trans (dpL_len x s f) xf.trips
  go_enter Try.func4, Try.ntmps4
  go_wp2_with fail
  generalize (w.alloc (.cells #[.slice xA x.net.stops.length xca, .slice xL x.net.lines.length xcl, .slice xT x.trips.length xct] 39)) = w0 at *
  obtain ⟨cb0_0, cb0_1, cb0_2⟩ := xHC.out
  have cl0 : w.heap.size < w0.heap.size := by omega
  go_wp2_with fail
  refine (szTimetable_any x _ _ _ _ _ _ _ _ (xHh1.out.mono (Zone.below_le (by omega))) (xHh2.out.mono (Zone.below_le (by omega))) (by omega) (by omega) xl1 xl2 xl3 xl4 xl5).mono ?_
  rintro e w1 ⟨rfl, hb⟩
  have hs0 := hb.size
  have hq : Below w0.heap.size w0 w1 := hb.mono (by omega)
  replace HB := Lib.hid (HB.out.trans (hq.mono hw0))
  replace xHh1 := Lib.hid (xHh1.out.at_below hq)
  replace xHh2 := Lib.hid (xHh2.out.at_below hq)
  replace xHh3 := Lib.hid (xHh3.out.at_below hq)
  replace xHC := Lib.hid (xHC.out.below hq xlt)
  clear hq
  clear hb
  clear cb0_0 cb0_1 cb0_2
  clear cl0
  clear xl1 xl2 xl3 xl4 xl5
  obtain ⟨cb0_0, cb0_1, cb0_2⟩ := xHC.out
  have cl0 : w.heap.size < w1.heap.size := by omega
  go_wp2_with fail
  refine (toTimetable_new x _ _ _ _ _ _ _ (xHh1.out.mono (Zone.below_le (by omega))) (xHh2.out.mono (Zone.below_le (by omega))) (xHh3.out.mono (Zone.below_le (by omega))) xf).mono ?_
  rintro e w2 ⟨sg, sh, sk, rfl, si1, si2, si3, hb⟩
  have hs1 := hb.size
  have hq : Below w0.heap.size w1 w2 := hb.mono (by omega)
  replace HB := Lib.hid (HB.out.trans (hq.mono hw0))
  replace xHh1 := Lib.hid (xHh1.out.at_below hq)
  replace xHh2 := Lib.hid (xHh2.out.at_below hq)
  replace xHh3 := Lib.hid (xHh3.out.at_below hq)
  replace xHC := Lib.hid (xHC.out.below hq xlt)
  clear hq
  clear hb
  clear cb0_0 cb0_1 cb0_2
  clear cl0
  have sHi1 := Lib.hid si1
  clear si1
  have sHi2 := Lib.hid si2
  clear si2
  have sHi3 := Lib.hid si3
  clear si3
  go_wp2_with fail
  refine (specDepartures_any x _ _ _ _ _ _ s f _ (sHi1.out.to_below (by omega)) (sHi2.out.to_below (by omega)) (sHi3.out.to_below (by omega)) xf).mono ?_
  rintro e w3 ⟨wA, wc, rfl, wi, hb⟩
  have hs2 := hb.size
  have hq : Below w0.heap.size w2 w3 := hb.mono (by omega)
  replace HB := Lib.hid (HB.out.trans (hq.mono hw0))
  replace xHh1 := Lib.hid (xHh1.out.at_below hq)
  replace xHh2 := Lib.hid (xHh2.out.at_below hq)
  replace xHh3 := Lib.hid (xHh3.out.at_below hq)
  replace xHC := Lib.hid (xHC.out.below hq xlt)
  replace sHi1 := Lib.hid (sHi1.out.new_call hb (by omega))
  replace sHi2 := Lib.hid (sHi2.out.new_call hb (by omega))
  replace sHi3 := Lib.hid (sHi3.out.new_call hb (by omega))
  clear hq
  clear hb
  have wH := Lib.hid wi
  clear wi
  clear sHi1
  clear sHi2
  clear sHi3
  obtain ⟨cb0_0, cb0_1, cb0_2⟩ := xHC.out
  have cl0 : w.heap.size < w3.heap.size := by omega
  go_wp2_with fail
  refine (toTimetable_new x _ _ _ _ _ _ _ (xHh1.out.mono (Zone.below_le (by omega))) (xHh2.out.mono (Zone.below_le (by omega))) (xHh3.out.mono (Zone.below_le (by omega))) xf).mono ?_
  rintro e w4 ⟨xg, xh, xk, rfl, xi1, xi2, xi3, hb⟩
  have hs3 := hb.size
  have hq : Below w0.heap.size w3 w4 := hb.mono (by omega)
  replace HB := Lib.hid (HB.out.trans (hq.mono hw0))
  replace xHh1 := Lib.hid (xHh1.out.at_below hq)
  replace xHh2 := Lib.hid (xHh2.out.at_below hq)
  replace xHh3 := Lib.hid (xHh3.out.at_below hq)
  replace xHC := Lib.hid (xHC.out.below hq xlt)
  replace wH := Lib.hid (wH.out.new_call hb (by omega))
  clear hq
  clear hb
  clear cb0_0 cb0_1 cb0_2
  clear cl0
  have xHi1 := Lib.hid xi1
  clear xi1
  have xHi2 := Lib.hid xi2
  clear xi2
  have xHi3 := Lib.hid xi3
  clear xi3
  go_wp2_with fail
  have hb : Below w4.heap.size w4 (w4.alloc (.cells #[.slice (some ⟨xg, 0, none⟩) x.net.stops.length x.net.stops.length, .slice (some ⟨xh, 0, none⟩) x.net.lines.length x.net.lines.length, .slice (some ⟨xk, 0, none⟩) x.trips.length x.trips.length] 49)) := by go_grown
  have xB : Hid (Tt3 (w4.alloc (.cells #[.slice (some ⟨xg, 0, none⟩) x.net.stops.length x.net.stops.length, .slice (some ⟨xh, 0, none⟩) x.net.lines.length x.net.lines.length, .slice (some ⟨xk, 0, none⟩) x.trips.length x.trips.length] 49)) w4.heap.size x (some ⟨xg, 0, none⟩) x.net.stops.length (some ⟨xh, 0, none⟩) x.net.lines.length (some ⟨xk, 0, none⟩) x.trips.length) := Lib.hid (by refine ⟨?_, ?_, ?_⟩ <;> go_simp)
  have xBlt : w4.heap.size < (w4.alloc (.cells #[.slice (some ⟨xg, 0, none⟩) x.net.stops.length x.net.stops.length, .slice (some ⟨xh, 0, none⟩) x.net.lines.length x.net.lines.length, .slice (some ⟨xk, 0, none⟩) x.trips.length x.trips.length] 49)).heap.size := by simp
  generalize (w4.alloc (.cells #[.slice (some ⟨xg, 0, none⟩) x.net.stops.length x.net.stops.length, .slice (some ⟨xh, 0, none⟩) x.net.lines.length x.net.lines.length, .slice (some ⟨xk, 0, none⟩) x.trips.length x.trips.length] 49)) = w5 at *
  have hs4 := hb.size
  have hq : Below w0.heap.size w4 w5 := hb.mono (by omega)
  replace HB := Lib.hid (HB.out.trans (hq.mono hw0))
  replace xHh1 := Lib.hid (xHh1.out.at_below hq)
  replace xHh2 := Lib.hid (xHh2.out.at_below hq)
  replace xHh3 := Lib.hid (xHh3.out.at_below hq)
  replace xHC := Lib.hid (xHC.out.below hq xlt)
  replace wH := Lib.hid (wH.out.new_call hb (by omega))
  replace xHi1 := Lib.hid (xHi1.out.new_call hb (by omega))
  replace xHi2 := Lib.hid (xHi2.out.new_call hb (by omega))
  replace xHi3 := Lib.hid (xHi3.out.new_call hb (by omega))
  clear hq
  clear hb
  go_wp2_with fail
  refine (implDepartures_any x _ _ _ _ _ _ s f _ (xHi1.out.to_below (by omega)) (xHi2.out.to_below (by omega)) (xHi3.out.to_below (by omega)) xf).mono ?_
  rintro e w6 ⟨gA, gc, rfl, gi, hb⟩
  have hs5 := hb.size
  have hq : Below w0.heap.size w5 w6 := hb.mono (by omega)
  replace HB := Lib.hid (HB.out.trans (hq.mono hw0))
  replace xHh1 := Lib.hid (xHh1.out.at_below hq)
  replace xHh2 := Lib.hid (xHh2.out.at_below hq)
  replace xHh3 := Lib.hid (xHh3.out.at_below hq)
  replace xHC := Lib.hid (xHC.out.below hq xlt)
  replace wH := Lib.hid (wH.out.new_call hb (by omega))
  replace xHi1 := Lib.hid (xHi1.out.new_call hb (by omega))
  replace xHi2 := Lib.hid (xHi2.out.new_call hb (by omega))
  replace xHi3 := Lib.hid (xHi3.out.new_call hb (by omega))
  replace xB := Lib.hid (xB.out.below hb (by omega))
  clear hq
  clear hb
  have gH := Lib.hid gi
  clear gi
  go_wp2_with fail
  refine (eqIntA2S_same _ _ _ _ (dpL x s f) _ (gH.out.to_below (by omega)) (wH.out.to_below (by omega)) rlen).mono ?_
  rintro e w7 ⟨rfl, hb⟩
  have hs6 := hb.size
  have hq : Below w0.heap.size w6 w7 := hb.mono (by omega)
  replace HB := Lib.hid (HB.out.trans (hq.mono hw0))
  replace xHh1 := Lib.hid (xHh1.out.at_below hq)
  replace xHh2 := Lib.hid (xHh2.out.at_below hq)
  replace xHh3 := Lib.hid (xHh3.out.at_below hq)
  replace xHC := Lib.hid (xHC.out.below hq xlt)
  replace wH := Lib.hid (wH.out.new_call hb (by omega))
  replace xHi1 := Lib.hid (xHi1.out.new_call hb (by omega))
  replace xHi2 := Lib.hid (xHi2.out.new_call hb (by omega))
  replace xHi3 := Lib.hid (xHi3.out.new_call hb (by omega))
  replace xB := Lib.hid (xB.out.below hb (by omega))
  replace gH := Lib.hid (gH.out.new_call hb (by omega))
  clear hq
  clear hb
  go_wp2_with fail
  have hC : ∀ w', Below w7.heap.size w7 w' → Tt3 w' w.heap.size x xA xca xL xcl xT xct := fun w' hb => xHC.out.below (hb.mono (by omega)) xlt
  have hD : ∀ w', Below w7.heap.size w7 w' → Tt3 w' w4.heap.size x (some ⟨xg, 0, none⟩) x.net.stops.length (some ⟨xh, 0, none⟩) x.net.lines.length (some ⟨xk, 0, none⟩) x.trips.length := fun w' hb => xB.out.below hb (by omega)
  unfold Tt3 at hC hD
  go_region_held3 (fun w' => Below w7.heap.size w7 w') (repeat' first | assumption | exact Nat.le_refl _ | exact Below.refl _ _ | (refine bel_drew ?_) | (refine bel_alloc ?_ _) | (refine bel_set ?_ ?_ _))
    (first
      | (go_at_call 25; refine (toTimetable_new x _ _ _ _ _ _ _ ((xHh1.out.mono (Zone.below_le (by omega))).call ‹Below w7.heap.size w7 _›) ((xHh2.out.mono (Zone.below_le (by omega))).call ‹Below w7.heap.size w7 _›) ((xHh3.out.mono (Zone.below_le (by omega))).call ‹Below w7.heap.size w7 _›) xf).mono ?_; rintro e wp ⟨mg, mh, mk, rfl, mi1, mi2, mi3, hb5⟩; have hB5 := bel_call ‹Below w7.heap.size w7 _› hb5; have Mi1 := Lib.hid (mi1.to_below (Nat.le_refl _)); have Mi2 := Lib.hid (mi2.to_below (Nat.le_refl _)); have Mi3 := Lib.hid (mi3.to_below (Nat.le_refl _)); clear mi1 mi2 mi3 hb5)
      | (go_at_call 28; refine (eqTimetable_same x _ _ _ _ _ _ _ _ _ _ _ _ _ ((xHi1.out.to_below (by omega)).call ‹Below w7.heap.size w7 _›) ((xHi2.out.to_below (by omega)).call ‹Below w7.heap.size w7 _›) ((xHi3.out.to_below (by omega)).call ‹Below w7.heap.size w7 _›) Mi1.out Mi2.out Mi3.out xf).mono ?_; rintro e wq ⟨rfl, hb6⟩; have hb := bel_call ‹Below w7.heap.size w7 wp› hb6; clear hb6))
  all_goals
    clear hC hD hB5 Mi1 Mi2 Mi3
    generalize wq = w8 at *
    have hs7 := hb.size
    have hq : Below w0.heap.size w7 w8 := hb.mono (by omega)
    replace HB := Lib.hid (HB.out.trans (hq.mono hw0))
    replace xHh1 := Lib.hid (xHh1.out.at_below hq)
    replace xHh2 := Lib.hid (xHh2.out.at_below hq)
    replace xHh3 := Lib.hid (xHh3.out.at_below hq)
    replace xHC := Lib.hid (xHC.out.below hq xlt)
    replace wH := Lib.hid (wH.out.new_call hb (by omega))
    replace xHi1 := Lib.hid (xHi1.out.new_call hb (by omega))
    replace xHi2 := Lib.hid (xHi2.out.new_call hb (by omega))
    replace xHi3 := Lib.hid (xHi3.out.new_call hb (by omega))
    replace xB := Lib.hid (xB.out.below hb (by omega))
    replace gH := Lib.hid (gH.out.new_call hb (by omega))
    clear hq
    clear hb
    obtain ⟨cb0_0, cb0_1, cb0_2⟩ := xB.out
    have cl0 : w4.heap.size < w8.heap.size := by omega
    go_wp2_with fail
    have hmk := markTimetable_any w3.heap.size w4.heap.size x _ _ _ x.net.stops.length x.net.lines.length x.trips.length 1 _ xHi1.out xHi2.out xHi3.out (by omega) xhn (by omega) (by omega)
    push_cast at hmk
    refine hmk.mono ?_
    rintro e w9 ⟨rfl, hm⟩
    clear hmk
    clear xHi1
    clear xHi2
    clear xHi3
    clear cb0_0 cb0_1 cb0_2
    clear cl0
    clear xB
    have hs8 := hm.size
    have hq : Below w0.heap.size w8 w9 := (hm.below (by omega)).mono (by omega)
    replace HB := Lib.hid (HB.out.trans (hq.mono hw0))
    replace xHh1 := Lib.hid (xHh1.out.at_below hq)
    replace xHh2 := Lib.hid (xHh2.out.at_below hq)
    replace xHh3 := Lib.hid (xHh3.out.at_below hq)
    replace xHC := Lib.hid (xHC.out.below hq xlt)
    replace wH := Lib.hid (wH.out.keep fun c hc => hm.same (by have := hc.1; have := hc.2; omega) (by have := hc.1; have := hc.2; omega))
    replace gH := Lib.hid (gH.out.keep fun c hc => hm.same (by have := hc.1; have := hc.2; omega) (by have := hc.1; have := hc.2; omega))
    clear hq
    clear hm
    skip
    have hkk : decide ((1 : Int) + ((cntT x : Nat) : Int) < 0) = false := by simp; omega
    push_cast at hkk
    go_wp2_with fail
    refine (eqIntA2S_same _ _ _ _ (dpL x s f) _ (gH.out.to_below (by omega)) (wH.out.to_below (by omega)) rlen).mono ?_
    rintro e w10 ⟨rfl, hb⟩
    have hs9 := hb.size
    have hq : Below w0.heap.size w9 w10 := hb.mono (by omega)
    replace HB := Lib.hid (HB.out.trans (hq.mono hw0))
    replace xHh1 := Lib.hid (xHh1.out.at_below hq)
    replace xHh2 := Lib.hid (xHh2.out.at_below hq)
    replace xHh3 := Lib.hid (xHh3.out.at_below hq)
    replace xHC := Lib.hid (xHC.out.below hq xlt)
    replace wH := Lib.hid (wH.out.new_call hb (by omega))
    replace gH := Lib.hid (gH.out.new_call hb (by omega))
    clear hq
    clear hb
    go_wp2_with fail
    have hmk := markIntA2S_res w5.heap.size w6.heap.size gA gc (dpL x s f) 1 _ gH.out rlen (by omega)
    push_cast at hmk
    refine hmk.mono ?_
    rintro e w11 ⟨rfl, hm, gj⟩
    clear hmk
    clear gH
    have hs10 := hm.size
    have hq : Below w0.heap.size w10 w11 := (hm.below (by omega)).mono (by omega)
    replace HB := Lib.hid (HB.out.trans (hq.mono hw0))
    replace xHh1 := Lib.hid (xHh1.out.at_below hq)
    replace xHh2 := Lib.hid (xHh2.out.at_below hq)
    replace xHh3 := Lib.hid (xHh3.out.at_below hq)
    replace xHC := Lib.hid (xHC.out.below hq xlt)
    replace wH := Lib.hid (wH.out.keep fun c hc => hm.same (by have := hc.1; have := hc.2; omega) (by have := hc.1; have := hc.2; omega))
    clear hq
    clear hm
    have gM := Lib.hid gj
    clear gj
    have hkr : decide ((1 : Int) + ((2 * (dpL x s f).length : Nat) : Int) < 0) = false := by simp; omega
    push_cast at hkr
    go_wp2_with fail
    have hhd := heldIntA2S_any gA gc (dpL x s f).length 1 _ _ (gM.out.to_below (by omega)) rlen (by omega)
    push_cast at hhd
    refine hhd.mono ?_
    rintro e w12 ⟨rfl, rfl⟩
    clear hhd
    obtain ⟨cb0_0, cb0_1, cb0_2⟩ := xHC.out
    have cl0 : w.heap.size < w11.heap.size := by omega
    go_wp2_with fail
    refine (toTimetable_new x _ _ _ _ _ _ _ (xHh1.out.mono (Zone.below_le (by omega))) (xHh2.out.mono (Zone.below_le (by omega))) (xHh3.out.mono (Zone.below_le (by omega))) xf).mono ?_
    rintro e w12 ⟨yg, yh, yk, rfl, yi1, yi2, yi3, hb⟩
    have hs11 := hb.size
    have hq : Below w0.heap.size w11 w12 := hb.mono (by omega)
    replace HB := Lib.hid (HB.out.trans (hq.mono hw0))
    replace xHh1 := Lib.hid (xHh1.out.at_below hq)
    replace xHh2 := Lib.hid (xHh2.out.at_below hq)
    replace xHh3 := Lib.hid (xHh3.out.at_below hq)
    replace xHC := Lib.hid (xHC.out.below hq xlt)
    replace wH := Lib.hid (wH.out.new_call hb (by omega))
    replace gM := Lib.hid (gM.out.new_call hb (by omega))
    clear hq
    clear hb
    clear cb0_0 cb0_1 cb0_2
    clear cl0
    have yHi1 := Lib.hid yi1
    clear yi1
    have yHi2 := Lib.hid yi2
    clear yi2
    have yHi3 := Lib.hid yi3
    clear yi3
    go_wp2_with fail
    refine (implDepartures_any x _ _ _ _ _ _ s f _ (yHi1.out.to_below (by omega)) (yHi2.out.to_below (by omega)) (yHi3.out.to_below (by omega)) xf).mono ?_
    rintro e w13 ⟨hA, hc, rfl, hi, hb⟩
    have hs12 := hb.size
    have hq : Below w0.heap.size w12 w13 := hb.mono (by omega)
    replace HB := Lib.hid (HB.out.trans (hq.mono hw0))
    replace xHh1 := Lib.hid (xHh1.out.at_below hq)
    replace xHh2 := Lib.hid (xHh2.out.at_below hq)
    replace xHh3 := Lib.hid (xHh3.out.at_below hq)
    replace xHC := Lib.hid (xHC.out.below hq xlt)
    replace wH := Lib.hid (wH.out.new_call hb (by omega))
    replace gM := Lib.hid (gM.out.new_call hb (by omega))
    replace yHi1 := Lib.hid (yHi1.out.new_call hb (by omega))
    replace yHi2 := Lib.hid (yHi2.out.new_call hb (by omega))
    replace yHi3 := Lib.hid (yHi3.out.new_call hb (by omega))
    clear hq
    clear hb
    have hH := Lib.hid hi
    clear hi
    go_wp2_with fail
    refine (eqIntA2S_same _ _ _ _ (dpL x s f) _ (hH.out.to_below (by omega)) (wH.out.to_below (by omega)) rlen).mono ?_
    rintro e w14 ⟨rfl, hb⟩
    have hs13 := hb.size
    have hq : Below w0.heap.size w13 w14 := hb.mono (by omega)
    replace HB := Lib.hid (HB.out.trans (hq.mono hw0))
    replace xHh1 := Lib.hid (xHh1.out.at_below hq)
    replace xHh2 := Lib.hid (xHh2.out.at_below hq)
    replace xHh3 := Lib.hid (xHh3.out.at_below hq)
    replace xHC := Lib.hid (xHC.out.below hq xlt)
    replace wH := Lib.hid (wH.out.new_call hb (by omega))
    replace gM := Lib.hid (gM.out.new_call hb (by omega))
    replace yHi1 := Lib.hid (yHi1.out.new_call hb (by omega))
    replace yHi2 := Lib.hid (yHi2.out.new_call hb (by omega))
    replace yHi3 := Lib.hid (yHi3.out.new_call hb (by omega))
    replace hH := Lib.hid (hH.out.new_call hb (by omega))
    clear hq
    clear hb
    go_wp2_with fail
    have hhd := heldIntA2S_any gA gc (dpL x s f).length 1 _ _ (gM.out.to_below (by omega)) rlen (by omega)
    push_cast at hhd
    refine hhd.mono ?_
    rintro e w15 ⟨rfl, rfl⟩
    clear hhd
    go_wp2_with fail
    go_ret
    exact ⟨rfl, HB.out⟩

end Go.Proofs.Ytambgommeannnaa
