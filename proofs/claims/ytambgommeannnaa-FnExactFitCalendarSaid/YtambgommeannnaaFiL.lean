/- The walk of the law of FitCalendar. -/
import Derived.Test.YtambgommeannnaaFii
import Derived.Test.YtambgommeannnaaFis
import Derived.Test.YtambgommeannnaaFio
namespace Go.Proofs.Ytambgommeannnaa
open Go.ChangeShapes Go.WideShapes Go.ChangeAt Go.RowKit Go.PlainAid
set_option linter.unusedVariables false
set_option linter.unusedSimpArgs false

set_option maxRecDepth 100000 in
set_option maxHeartbeats 4000000 in
theorem fnFitCalendar_walk (f : Int) (wf : (Lit.int .i64 f).wf = true) (t : Int) (wt : (Lit.int .i64 t).wf = true) (vxs : Value) (xs : List Int) (w : World) (hxs : LInts w vxs xs) :
    Calls Try.prog 3 #[.int .i64 f, .int .i64 t, vxs] w fun e w' => e = .returned (.bool true) ∧ Below w.heap.size w w' := by
  obtain ⟨xsA, xsc, rfl, xsh1, xsl1⟩ := hxs
  have fwf := wf
  try clear wf
  have twf := wt
  try clear wt
  have hb0 : Below w.heap.size w w := by go_grown
  have xsHh1 := Lib.hid ((xsh1.call hb0).mono (Zone.below_le (Nat.le_refl w.heap.size)))
  clear xsh1
  have HB := Lib.hid hb0
  have hw0 : w.heap.size ≤ w.heap.size := hb0.size
  clear hb0
  by_cases cutxs : 1048576 < xs.length
  · go_enter Try.func3, Try.ntmps3
    go_wp2_with fail
    go_ret
    exact ⟨rfl, by go_grown⟩
  have xsf : xs.length ≤ 1048576 := by omega
  have rn := fcX_len xs f t true
  have rm := fcX_len xs f t false
  go_enter Try.func3, Try.ntmps3
  go_wp2_with fail
  obtain ⟨w0, rfl⟩ : ∃ w0 : World, w0 = w := ⟨_, rfl⟩
  go_wp2_with fail
  refine (toIntS_new _ _ xs _ (xsHh1.out.mono (Zone.below_le (by omega))) xsf).mono ?_
  rintro e w1 ⟨sg, rfl, _, _, si1, hb⟩
  have hs0 := hb.size
  have hq : Below w0.heap.size w0 w1 := hb.mono (by omega)
  replace HB := Lib.hid (HB.out.trans (hq.mono hw0))
  replace xsHh1 := Lib.hid (xsHh1.out.at_below hq)
  clear hq
  clear hb
  have sHi1 := Lib.hid si1
  clear si1
  go_wp2_with fail
  refine (specFit_any _ _ xs f t _ (sHi1.out.to_below (by omega)) xsf).mono ?_
  rintro e w2 ⟨wA, wca, wR, wcr, rfl, wi, hb⟩
  have hs1 := hb.size
  have hq : Below w0.heap.size w1 w2 := hb.mono (by omega)
  replace HB := Lib.hid (HB.out.trans (hq.mono hw0))
  replace xsHh1 := Lib.hid (xsHh1.out.at_below hq)
  replace sHi1 := Lib.hid (sHi1.out.new_call hb (by omega))
  clear hq
  clear hb
  have wH := Lib.hid wi
  clear wi
  clear sHi1
  go_wp2_with fail
  have hb : Below w2.heap.size w2 (w2.alloc (.cells #[.int .i64 (fcI xs f t f), .int .i64 (fcI xs f t t), .int .i64 (fcI xs f t (fcD0 xs f t)), .slice wA (fcX xs f t true).length wca, .slice wR (fcX xs f t false).length wcr] 24)) := by go_grown
  have wB : Hid (Cal5 (w2.alloc (.cells #[.int .i64 (fcI xs f t f), .int .i64 (fcI xs f t t), .int .i64 (fcI xs f t (fcD0 xs f t)), .slice wA (fcX xs f t true).length wca, .slice wR (fcX xs f t false).length wcr] 24)) w2.heap.size (fcI xs f t f) (fcI xs f t t) (fcI xs f t (fcD0 xs f t)) wA (fcX xs f t true).length wca wR (fcX xs f t false).length wcr) := Lib.hid (by refine ⟨?_, ?_, ?_, ?_, ?_⟩ <;> go_simp)
  have wBlt : w2.heap.size < (w2.alloc (.cells #[.int .i64 (fcI xs f t f), .int .i64 (fcI xs f t t), .int .i64 (fcI xs f t (fcD0 xs f t)), .slice wA (fcX xs f t true).length wca, .slice wR (fcX xs f t false).length wcr] 24)).heap.size := by simp
  generalize (w2.alloc (.cells #[.int .i64 (fcI xs f t f), .int .i64 (fcI xs f t t), .int .i64 (fcI xs f t (fcD0 xs f t)), .slice wA (fcX xs f t true).length wca, .slice wR (fcX xs f t false).length wcr] 24)) = w3 at *
  have hs2 := hb.size
  have hq : Below w0.heap.size w2 w3 := hb.mono (by omega)
  replace HB := Lib.hid (HB.out.trans (hq.mono hw0))
  replace xsHh1 := Lib.hid (xsHh1.out.at_below hq)
  replace wH := Lib.hid (wH.out.new_call hb (by omega))
  clear hq
  clear hb
  go_wp2_with fail
  refine (toIntS_new _ _ xs _ (xsHh1.out.mono (Zone.below_le (by omega))) xsf).mono ?_
  rintro e w4 ⟨xg, rfl, _, _, xi1, hb⟩
  have hs3 := hb.size
  have hq : Below w0.heap.size w3 w4 := hb.mono (by omega)
  replace HB := Lib.hid (HB.out.trans (hq.mono hw0))
  replace xsHh1 := Lib.hid (xsHh1.out.at_below hq)
  replace wH := Lib.hid (wH.out.new_call hb (by omega))
  replace wB := Lib.hid (wB.out.below hb (by omega))
  clear hq
  clear hb
  have xHi1 := Lib.hid xi1
  clear xi1
  go_wp2_with fail
  refine (implFit_any _ _ xs f t _ (xHi1.out.to_below (by omega)) xsf).mono ?_
  rintro e w5 ⟨gA, gca, gR, gcr, rfl, gi, hb⟩
  have hs4 := hb.size
  have hq : Below w0.heap.size w4 w5 := hb.mono (by omega)
  replace HB := Lib.hid (HB.out.trans (hq.mono hw0))
  replace xsHh1 := Lib.hid (xsHh1.out.at_below hq)
  replace wH := Lib.hid (wH.out.new_call hb (by omega))
  replace wB := Lib.hid (wB.out.below hb (by omega))
  replace xHi1 := Lib.hid (xHi1.out.new_call hb (by omega))
  clear hq
  clear hb
  have gH := Lib.hid gi
  clear gi
  obtain ⟨cb0_0, cb0_1, cb0_2, cb0_3, cb0_4⟩ := wB.out
  have cl0 : w2.heap.size < w5.heap.size := by omega
  go_wp2_with fail
  have hb : Below w5.heap.size w5 (w5.alloc (.cells #[.int .i64 (fcI xs f t f), .int .i64 (fcI xs f t t), .int .i64 (fcI xs f t (fcD0 xs f t)), .slice gA (fcX xs f t true).length gca, .slice gR (fcX xs f t false).length gcr] 24)) := by go_grown
  have gB : Hid (Cal5 (w5.alloc (.cells #[.int .i64 (fcI xs f t f), .int .i64 (fcI xs f t t), .int .i64 (fcI xs f t (fcD0 xs f t)), .slice gA (fcX xs f t true).length gca, .slice gR (fcX xs f t false).length gcr] 24)) w5.heap.size (fcI xs f t f) (fcI xs f t t) (fcI xs f t (fcD0 xs f t)) gA (fcX xs f t true).length gca gR (fcX xs f t false).length gcr) := Lib.hid (by refine ⟨?_, ?_, ?_, ?_, ?_⟩ <;> go_simp)
  have gBlt : w5.heap.size < (w5.alloc (.cells #[.int .i64 (fcI xs f t f), .int .i64 (fcI xs f t t), .int .i64 (fcI xs f t (fcD0 xs f t)), .slice gA (fcX xs f t true).length gca, .slice gR (fcX xs f t false).length gcr] 24)).heap.size := by simp
  generalize (w5.alloc (.cells #[.int .i64 (fcI xs f t f), .int .i64 (fcI xs f t t), .int .i64 (fcI xs f t (fcD0 xs f t)), .slice gA (fcX xs f t true).length gca, .slice gR (fcX xs f t false).length gcr] 24)) = w6 at *
  have hs5 := hb.size
  have hq : Below w0.heap.size w5 w6 := hb.mono (by omega)
  replace HB := Lib.hid (HB.out.trans (hq.mono hw0))
  replace xsHh1 := Lib.hid (xsHh1.out.at_below hq)
  replace wH := Lib.hid (wH.out.new_call hb (by omega))
  replace wB := Lib.hid (wB.out.below hb (by omega))
  replace xHi1 := Lib.hid (xHi1.out.new_call hb (by omega))
  replace gH := Lib.hid (gH.out.new_call hb (by omega))
  clear hq
  clear hb
  clear cb0_0 cb0_1 cb0_2 cb0_3 cb0_4
  clear cl0
  obtain ⟨cb0_0, cb0_1, cb0_2, cb0_3, cb0_4⟩ := gB.out
  have cl0 : w5.heap.size < w6.heap.size := by omega
  obtain ⟨cb1_0, cb1_1, cb1_2, cb1_3, cb1_4⟩ := wB.out
  have cl1 : w2.heap.size < w6.heap.size := by omega
  go_wp2_with fail
  refine (eqCalendar_sameZ (fcI xs f t f) (fcI xs f t t) (fcI xs f t (fcD0 xs f t)) _ _ _ _ _ _ _ _ (fcX xs f t true) (fcX xs f t false) _ (gH.out.to_below (by omega)).u (gH.out.to_below (by omega)).v (wH.out.to_below (by omega)).u (wH.out.to_below (by omega)).v rn rm).mono ?_
  rintro e w7 ⟨rfl, hb⟩
  have hs6 := hb.size
  have hq : Below w0.heap.size w6 w7 := hb.mono (by omega)
  replace HB := Lib.hid (HB.out.trans (hq.mono hw0))
  replace xsHh1 := Lib.hid (xsHh1.out.at_below hq)
  replace wH := Lib.hid (wH.out.new_call hb (by omega))
  replace wB := Lib.hid (wB.out.below hb (by omega))
  replace xHi1 := Lib.hid (xHi1.out.new_call hb (by omega))
  replace gH := Lib.hid (gH.out.new_call hb (by omega))
  replace gB := Lib.hid (gB.out.below hb (by omega))
  clear hq
  clear hb
  clear cb0_0 cb0_1 cb0_2 cb0_3 cb0_4
  clear cl0
  clear cb1_0 cb1_1 cb1_2 cb1_3 cb1_4
  clear cl1
  go_wp2_with fail
  refine (toIntS_new _ _ xs _ (xsHh1.out.mono (Zone.below_le (by omega))) xsf).mono ?_
  rintro e w8 ⟨mg, rfl, _, _, mi1, hb⟩
  have hs7 := hb.size
  have hq : Below w0.heap.size w7 w8 := hb.mono (by omega)
  replace HB := Lib.hid (HB.out.trans (hq.mono hw0))
  replace xsHh1 := Lib.hid (xsHh1.out.at_below hq)
  replace wH := Lib.hid (wH.out.new_call hb (by omega))
  replace wB := Lib.hid (wB.out.below hb (by omega))
  replace xHi1 := Lib.hid (xHi1.out.new_call hb (by omega))
  replace gH := Lib.hid (gH.out.new_call hb (by omega))
  replace gB := Lib.hid (gB.out.below hb (by omega))
  clear hq
  clear hb
  have mHi1 := Lib.hid mi1
  clear mi1
  go_wp2_with fail
  refine (eqIntS_same _ _ _ _ xs _ (IntsIn.at (xHi1.out.to_below (by omega))) (IntsIn.at (mHi1.out.to_below (by omega))) xsf).mono ?_
  rintro e w9 ⟨rfl, q, rfl⟩
  have hb : Below w8.heap.size w8 (w8.drewN q) := bel_drewN (Below.refl _ _) _
  generalize w8.drewN q = w9 at *
  have hs8 := hb.size
  have hq : Below w0.heap.size w8 w9 := hb.mono (by omega)
  replace HB := Lib.hid (HB.out.trans (hq.mono hw0))
  replace xsHh1 := Lib.hid (xsHh1.out.at_below hq)
  replace wH := Lib.hid (wH.out.new_call hb (by omega))
  replace wB := Lib.hid (wB.out.below hb (by omega))
  replace xHi1 := Lib.hid (xHi1.out.new_call hb (by omega))
  replace gH := Lib.hid (gH.out.new_call hb (by omega))
  replace gB := Lib.hid (gB.out.below hb (by omega))
  replace mHi1 := Lib.hid (mHi1.out.new_call hb (by omega))
  clear hq
  clear hb
  clear mHi1
  go_wp2_with fail
  have hmk := markIntS_any w3.heap.size w4.heap.size _ xs.length xs 1 _ xHi1.out xsf (by omega)
  push_cast at hmk
  refine hmk.mono ?_
  rintro e w10 ⟨rfl, hm, _⟩
  clear hmk
  clear xHi1
  have hs9 := hm.size
  have hq : Below w0.heap.size w9 w10 := (hm.below (by omega)).mono (by omega)
  replace HB := Lib.hid (HB.out.trans (hq.mono hw0))
  replace xsHh1 := Lib.hid (xsHh1.out.at_below hq)
  replace wH := Lib.hid (wH.out.keep fun c hc => hm.same (by have := hc.1; have := hc.2; omega) (by have := hc.1; have := hc.2; omega))
  replace wB : Hid (Cal5 w10 w2.heap.size (fcI xs f t f) (fcI xs f t t) (fcI xs f t (fcD0 xs f t)) wA (fcX xs f t true).length wca wR (fcX xs f t false).length wcr) := Lib.hid (by have hcc := wB.out; unfold Cal5 at hcc ⊢; simp only [(hm.same (b := w2.heap.size) (by omega) (by omega) _).1]; exact hcc)
  replace gH := Lib.hid (gH.out.keep fun c hc => hm.same (by have := hc.1; have := hc.2; omega) (by have := hc.1; have := hc.2; omega))
  replace gB : Hid (Cal5 w10 w5.heap.size (fcI xs f t f) (fcI xs f t t) (fcI xs f t (fcD0 xs f t)) gA (fcX xs f t true).length gca gR (fcX xs f t false).length gcr) := Lib.hid (by have hcc := gB.out; unfold Cal5 at hcc ⊢; simp only [(hm.same (b := w5.heap.size) (by omega) (by omega) _).1]; exact hcc)
  clear hq
  clear hm
  skip
  have hkk : decide ((1 : Int) + ((xs.length : Nat) : Int) < 0) = false := by simp; omega
  push_cast at hkk
  obtain ⟨cb0_0, cb0_1, cb0_2, cb0_3, cb0_4⟩ := gB.out
  have cl0 : w5.heap.size < w10.heap.size := by omega
  obtain ⟨cb1_0, cb1_1, cb1_2, cb1_3, cb1_4⟩ := wB.out
  have cl1 : w2.heap.size < w10.heap.size := by omega
  go_wp2_with fail
  refine (eqCalendar_sameZ (fcI xs f t f) (fcI xs f t t) (fcI xs f t (fcD0 xs f t)) _ _ _ _ _ _ _ _ (fcX xs f t true) (fcX xs f t false) _ (gH.out.to_below (by omega)).u (gH.out.to_below (by omega)).v (wH.out.to_below (by omega)).u (wH.out.to_below (by omega)).v rn rm).mono ?_
  rintro e w11 ⟨rfl, hb⟩
  have hs10 := hb.size
  have hq : Below w0.heap.size w10 w11 := hb.mono (by omega)
  replace HB := Lib.hid (HB.out.trans (hq.mono hw0))
  replace xsHh1 := Lib.hid (xsHh1.out.at_below hq)
  replace wH := Lib.hid (wH.out.new_call hb (by omega))
  replace wB := Lib.hid (wB.out.below hb (by omega))
  replace gH := Lib.hid (gH.out.new_call hb (by omega))
  replace gB := Lib.hid (gB.out.below hb (by omega))
  clear hq
  clear hb
  clear cb0_0 cb0_1 cb0_2 cb0_3 cb0_4
  clear cl0
  clear cb1_0 cb1_1 cb1_2 cb1_3 cb1_4
  clear cl1
  obtain ⟨cb0_0, cb0_1, cb0_2, cb0_3, cb0_4⟩ := gB.out
  have cl0 : w5.heap.size < w11.heap.size := by omega
  go_wp2_with fail
  have hmk := markCalendar_own w4.heap.size w5.heap.size (fcI xs f t f) (fcI xs f t t) (fcI xs f t (fcD0 xs f t)) gA gR gca gcr (fcX xs f t true) (fcX xs f t false) 1 _ gH.out (by omega) rn rm (by omega)
  push_cast at hmk
  refine hmk.mono ?_
  rintro e w12 ⟨rfl, hm, gj⟩
  clear hmk
  clear cb0_0 cb0_1 cb0_2 cb0_3 cb0_4
  clear cl0
  clear gH
  have hs11 := hm.size
  have hq : Below w0.heap.size w11 w12 := (hm.below (by omega)).mono (by omega)
  replace HB := Lib.hid (HB.out.trans (hq.mono hw0))
  replace xsHh1 := Lib.hid (xsHh1.out.at_below hq)
  replace wH := Lib.hid (wH.out.keep fun c hc => hm.same (by have := hc.1; have := hc.2; omega) (by have := hc.1; have := hc.2; omega))
  replace wB : Hid (Cal5 w12 w2.heap.size (fcI xs f t f) (fcI xs f t t) (fcI xs f t (fcD0 xs f t)) wA (fcX xs f t true).length wca wR (fcX xs f t false).length wcr) := Lib.hid (by have hcc := wB.out; unfold Cal5 at hcc ⊢; simp only [(hm.same (b := w2.heap.size) (by omega) (by omega) _).1]; exact hcc)
  replace gB : Hid (Cal5 w12 w5.heap.size (fcI xs f t f) (fcI xs f t t) (fcI xs f t (fcD0 xs f t)) gA (fcX xs f t true).length gca gR (fcX xs f t false).length gcr) := Lib.hid (by have hcc := gB.out; unfold Cal5 at hcc ⊢; simp only [(hm.same (b := w5.heap.size) (by omega) (by omega) _).1]; exact hcc)
  clear hq
  clear hm
  have gM := Lib.hid gj
  clear gj
  have hkr : decide ((1 : Int) + ((((fcX xs f t true).length + (fcX xs f t false).length : Nat) : Nat) : Int) < 0) = false := by simp; omega
  push_cast at hkr
  obtain ⟨cb0_0, cb0_1, cb0_2, cb0_3, cb0_4⟩ := gB.out
  have cl0 : w5.heap.size < w12.heap.size := by omega
  go_wp2_with fail
  have hhd := heldCalendar_any (fcI xs f t f) (fcI xs f t t) (fcI xs f t (fcD0 xs f t)) gA gR gca gcr (fcX xs f t true).length (fcX xs f t false).length 1 _ (gM.out.to_below (by omega)) rn rm (by omega)
  push_cast at hhd
  refine hhd.mono ?_
  rintro e w13 ⟨rfl, hb⟩
  clear hhd
  have hs12 := hb.size
  have hq : Below w0.heap.size w12 w13 := hb.mono (by omega)
  replace HB := Lib.hid (HB.out.trans (hq.mono hw0))
  replace xsHh1 := Lib.hid (xsHh1.out.at_below hq)
  replace wH := Lib.hid (wH.out.new_call hb (by omega))
  replace wB := Lib.hid (wB.out.below hb (by omega))
  replace gB := Lib.hid (gB.out.below hb (by omega))
  replace gM := Lib.hid (gM.out.new_call hb (by omega))
  clear hq
  clear hb
  clear cb0_0 cb0_1 cb0_2 cb0_3 cb0_4
  clear cl0
  go_wp2_with fail
  refine (toIntS_new _ _ xs _ (xsHh1.out.mono (Zone.below_le (by omega))) xsf).mono ?_
  rintro e w14 ⟨yg, rfl, _, _, yi1, hb⟩
  have hs13 := hb.size
  have hq : Below w0.heap.size w13 w14 := hb.mono (by omega)
  replace HB := Lib.hid (HB.out.trans (hq.mono hw0))
  replace xsHh1 := Lib.hid (xsHh1.out.at_below hq)
  replace wH := Lib.hid (wH.out.new_call hb (by omega))
  replace wB := Lib.hid (wB.out.below hb (by omega))
  replace gB := Lib.hid (gB.out.below hb (by omega))
  replace gM := Lib.hid (gM.out.new_call hb (by omega))
  clear hq
  clear hb
  have yHi1 := Lib.hid yi1
  clear yi1
  go_wp2_with fail
  refine (implFit_any _ _ xs f t _ (yHi1.out.to_below (by omega)) xsf).mono ?_
  rintro e w15 ⟨hA, hca, hR, hcr, rfl, hi, hb⟩
  have hs14 := hb.size
  have hq : Below w0.heap.size w14 w15 := hb.mono (by omega)
  replace HB := Lib.hid (HB.out.trans (hq.mono hw0))
  replace xsHh1 := Lib.hid (xsHh1.out.at_below hq)
  replace wH := Lib.hid (wH.out.new_call hb (by omega))
  replace wB := Lib.hid (wB.out.below hb (by omega))
  replace gB := Lib.hid (gB.out.below hb (by omega))
  replace gM := Lib.hid (gM.out.new_call hb (by omega))
  replace yHi1 := Lib.hid (yHi1.out.new_call hb (by omega))
  clear hq
  clear hb
  have hH := Lib.hid hi
  clear hi
  obtain ⟨cb0_0, cb0_1, cb0_2, cb0_3, cb0_4⟩ := wB.out
  have cl0 : w2.heap.size < w15.heap.size := by omega
  go_wp2_with fail
  have hb : Below w15.heap.size w15 (w15.alloc (.cells #[.int .i64 (fcI xs f t f), .int .i64 (fcI xs f t t), .int .i64 (fcI xs f t (fcD0 xs f t)), .slice hA (fcX xs f t true).length hca, .slice hR (fcX xs f t false).length hcr] 24)) := by go_grown
  have hB : Hid (Cal5 (w15.alloc (.cells #[.int .i64 (fcI xs f t f), .int .i64 (fcI xs f t t), .int .i64 (fcI xs f t (fcD0 xs f t)), .slice hA (fcX xs f t true).length hca, .slice hR (fcX xs f t false).length hcr] 24)) w15.heap.size (fcI xs f t f) (fcI xs f t t) (fcI xs f t (fcD0 xs f t)) hA (fcX xs f t true).length hca hR (fcX xs f t false).length hcr) := Lib.hid (by refine ⟨?_, ?_, ?_, ?_, ?_⟩ <;> go_simp)
  have hBlt : w15.heap.size < (w15.alloc (.cells #[.int .i64 (fcI xs f t f), .int .i64 (fcI xs f t t), .int .i64 (fcI xs f t (fcD0 xs f t)), .slice hA (fcX xs f t true).length hca, .slice hR (fcX xs f t false).length hcr] 24)).heap.size := by simp
  generalize (w15.alloc (.cells #[.int .i64 (fcI xs f t f), .int .i64 (fcI xs f t t), .int .i64 (fcI xs f t (fcD0 xs f t)), .slice hA (fcX xs f t true).length hca, .slice hR (fcX xs f t false).length hcr] 24)) = w16 at *
  have hs15 := hb.size
  have hq : Below w0.heap.size w15 w16 := hb.mono (by omega)
  replace HB := Lib.hid (HB.out.trans (hq.mono hw0))
  replace xsHh1 := Lib.hid (xsHh1.out.at_below hq)
  replace wH := Lib.hid (wH.out.new_call hb (by omega))
  replace wB := Lib.hid (wB.out.below hb (by omega))
  replace gB := Lib.hid (gB.out.below hb (by omega))
  replace gM := Lib.hid (gM.out.new_call hb (by omega))
  replace yHi1 := Lib.hid (yHi1.out.new_call hb (by omega))
  replace hH := Lib.hid (hH.out.new_call hb (by omega))
  clear hq
  clear hb
  clear cb0_0 cb0_1 cb0_2 cb0_3 cb0_4
  clear cl0
  obtain ⟨cb0_0, cb0_1, cb0_2, cb0_3, cb0_4⟩ := hB.out
  have cl0 : w15.heap.size < w16.heap.size := by omega
  obtain ⟨cb1_0, cb1_1, cb1_2, cb1_3, cb1_4⟩ := wB.out
  have cl1 : w2.heap.size < w16.heap.size := by omega
  go_wp2_with fail
  refine (eqCalendar_sameZ (fcI xs f t f) (fcI xs f t t) (fcI xs f t (fcD0 xs f t)) _ _ _ _ _ _ _ _ (fcX xs f t true) (fcX xs f t false) _ (hH.out.to_below (by omega)).u (hH.out.to_below (by omega)).v (wH.out.to_below (by omega)).u (wH.out.to_below (by omega)).v rn rm).mono ?_
  rintro e w17 ⟨rfl, hb⟩
  have hs16 := hb.size
  have hq : Below w0.heap.size w16 w17 := hb.mono (by omega)
  replace HB := Lib.hid (HB.out.trans (hq.mono hw0))
  replace xsHh1 := Lib.hid (xsHh1.out.at_below hq)
  replace wH := Lib.hid (wH.out.new_call hb (by omega))
  replace wB := Lib.hid (wB.out.below hb (by omega))
  replace gB := Lib.hid (gB.out.below hb (by omega))
  replace gM := Lib.hid (gM.out.new_call hb (by omega))
  replace yHi1 := Lib.hid (yHi1.out.new_call hb (by omega))
  replace hH := Lib.hid (hH.out.new_call hb (by omega))
  replace hB := Lib.hid (hB.out.below hb (by omega))
  clear hq
  clear hb
  clear cb0_0 cb0_1 cb0_2 cb0_3 cb0_4
  clear cl0
  clear cb1_0 cb1_1 cb1_2 cb1_3 cb1_4
  clear cl1
  obtain ⟨cb0_0, cb0_1, cb0_2, cb0_3, cb0_4⟩ := gB.out
  have cl0 : w5.heap.size < w17.heap.size := by omega
  go_wp2_with fail
  have hhd := heldCalendar_any (fcI xs f t f) (fcI xs f t t) (fcI xs f t (fcD0 xs f t)) gA gR gca gcr (fcX xs f t true).length (fcX xs f t false).length 1 _ (gM.out.to_below (by omega)) rn rm (by omega)
  push_cast at hhd
  refine hhd.mono ?_
  rintro e w18 ⟨rfl, hb⟩
  clear hhd
  have hs17 := hb.size
  have hq : Below w0.heap.size w17 w18 := hb.mono (by omega)
  replace HB := Lib.hid (HB.out.trans (hq.mono hw0))
  replace xsHh1 := Lib.hid (xsHh1.out.at_below hq)
  replace wH := Lib.hid (wH.out.new_call hb (by omega))
  replace wB := Lib.hid (wB.out.below hb (by omega))
  replace gB := Lib.hid (gB.out.below hb (by omega))
  replace gM := Lib.hid (gM.out.new_call hb (by omega))
  replace yHi1 := Lib.hid (yHi1.out.new_call hb (by omega))
  replace hH := Lib.hid (hH.out.new_call hb (by omega))
  replace hB := Lib.hid (hB.out.below hb (by omega))
  clear hq
  clear hb
  clear cb0_0 cb0_1 cb0_2 cb0_3 cb0_4
  clear cl0
  go_wp2_with fail
  go_ret
  exact ⟨rfl, HB.out⟩

end Go.Proofs.Ytambgommeannnaa
