/- The walk of the law of FreeSpans. -/
import Derived.Test.YtambgommeannnaaFsp
import Derived.Test.YtambgommeannnaaSpm
namespace Go.Proofs.Ytambgommeannnaa
open Go.ChangeShapes Go.WideShapes Go.ChangeAt Go.RowKit Go.PlainAid
set_option linter.unusedVariables false
set_option linter.unusedSimpArgs false

set_option maxRecDepth 100000 in
set_option maxHeartbeats 4000000 in
theorem fnFreeSpans_walk (vxs : Value) (xs : List I2) (za zb : Int) (w : World) (hxs : LSpans w vxs xs) :
    Calls Try.prog 9 #[vxs, .agg #[.int .i64 za, .int .i64 zb]] w fun e w' => e = .returned (.bool true) ∧ Below w.heap.size w w' := by
  obtain ⟨xsA, xsc, rfl, xsh1, xsl1⟩ := hxs
  have hb0 : Below w.heap.size w (w.alloc (.cells #[.int .i64 za, .int .i64 zb] 80)) := by go_grown
  have xsHh1 := Lib.hid ((xsh1.call hb0).mono (Zone.below_le (Nat.le_refl (w.alloc (.cells #[.int .i64 za, .int .i64 zb] 80)).heap.size)))
  clear xsh1
  have zHC : Hid ((w.alloc (.cells #[.int .i64 za, .int .i64 zb] 80)).cell? ⟨w.heap.size, 0, none⟩ = some (.int .i64 za) ∧ (w.alloc (.cells #[.int .i64 za, .int .i64 zb] 80)).cell? ⟨w.heap.size, 1, none⟩ = some (.int .i64 zb)) := Lib.hid (by refine ⟨?_, ?_⟩ <;> go_simp)
  have zlt : w.heap.size < (w.alloc (.cells #[.int .i64 za, .int .i64 zb] 80)).heap.size := by simp
  have HB := Lib.hid hb0
  have hw0 : w.heap.size ≤ (w.alloc (.cells #[.int .i64 za, .int .i64 zb] 80)).heap.size := hb0.size
  clear hb0
  by_cases xshz : szI (xs.length) 1048576 < 0
  · skip
    go_enter Try.func9, Try.ntmps9
    go_wp2_with fail
    generalize (w.alloc (.cells #[.int .i64 za, .int .i64 zb] 80)) = w0 at *
    go_wp2_with fail
    refine (szSpanS_any _ _ _ _ _ (by omega) (by omega) xsl1).mono ?_
    rintro e wz ⟨rfl, rfl⟩
    go_wp2_with fail
    go_ret
    exact ⟨rfl, HB.out⟩
  have xsf := szNet_le xshz (by omega)
  have xsle : szI (xs.length) 1048576 ≤ 1048576 := szI_le (by omega)
  have rlen := fsL_len xs za zb
  go_enter Try.func9, Try.ntmps9
  go_wp2_with fail
  generalize (w.alloc (.cells #[.int .i64 za, .int .i64 zb] 80)) = w0 at *
  go_wp2_with fail
  refine (szSpanS_any _ _ _ _ _ (by omega) (by omega) xsl1).mono ?_
  rintro e wz ⟨rfl, rfl⟩
  go_wp2_with fail
  have hV : ∀ w', Below w0.heap.size w0 w' → (w'.cell? ⟨w.heap.size, 0, none⟩ = some (.int .i64 za) ∧ w'.cell? ⟨w.heap.size, 1, none⟩ = some (.int .i64 zb)) := fun w' hb => (have hq := hb.mono (by omega : w0.heap.size ≤ w0.heap.size); ⟨(hq.cell (p := ⟨_, 0, none⟩) zlt).trans zHC.out.1, (hq.cell (p := ⟨_, 1, none⟩) zlt).trans zHC.out.2⟩)
  go_region_held3 (fun w' => Below w0.heap.size w0 w') (repeat' first | assumption | exact Nat.le_refl _ | exact Below.refl _ _ | (refine bel_drew ?_) | (refine bel_alloc ?_ _) | (refine bel_set ?_ ?_ _))
    (first
      | (go_at_call 45; (with_reducible refine (toSpanS_new _ _ xs _ ((xsHh1.out.mono (Zone.below_le (by omega))).call ‹Below w0.heap.size w0 _›) xsf).mono ?_); rintro e wp ⟨sg, rfl, _, _, si1, hb5⟩; have hB5 := bel_call ‹Below w0.heap.size w0 _› hb5; have sHi1 := Lib.hid (si1.to_below (Nat.le_refl _)); clear si1 hb5)
      | (go_at_call 53; refine (toSpan_any za zb _).mono ?_; rintro e wp2 ⟨rfl, hb7⟩; have hB7 := bel_call ‹Below w0.heap.size w0 _› hb7; (try have sNi1 := Lib.hid (sHi1.out.call hb7)); clear hb7)
      | (go_at_call 52; refine (specFree_any _ _ xs za zb _ (by first | exact sNi1.out | exact sHi1.out) xsf).mono ?_; rintro e wz ⟨wA, wc, rfl, wi, hb6⟩; have hz6 := (‹Below w0.heap.size w0 _› : Below w0.heap.size w0 _).size; have hb := bel_call ‹Below w0.heap.size w0 _› hb6; clear hb6))
  all_goals
    clear hV
    generalize wz = w1 at *
    have wH := Lib.hid (wi.mono (Zone.new_le (b' := w1.heap.size) hz6 (Nat.le_refl _)))
    clear wi hz6
    have hs0 := hb.size
    have hq : Below w0.heap.size w0 w1 := hb.mono (by omega)
    replace HB := Lib.hid (HB.out.trans (hq.mono hw0))
    replace xsHh1 := Lib.hid (xsHh1.out.at_below hq)
    replace zHC : Hid (w1.cell? ⟨w.heap.size, 0, none⟩ = some (.int .i64 za) ∧ w1.cell? ⟨w.heap.size, 1, none⟩ = some (.int .i64 zb)) := Lib.hid ⟨(hq.cell (p := ⟨_, 0, none⟩) zlt).trans zHC.out.1, (hq.cell (p := ⟨_, 1, none⟩) zlt).trans zHC.out.2⟩
    clear hq
    clear hb
    go_wp2_with fail
    refine (toSpanS_new _ _ xs _ (xsHh1.out.mono (Zone.below_le (by omega))) xsf).mono ?_
    rintro e w2 ⟨xg, rfl, _, _, xi1, hb⟩
    have hs1 := hb.size
    have hq : Below w0.heap.size w1 w2 := hb.mono (by omega)
    replace HB := Lib.hid (HB.out.trans (hq.mono hw0))
    replace xsHh1 := Lib.hid (xsHh1.out.at_below hq)
    replace zHC : Hid (w2.cell? ⟨w.heap.size, 0, none⟩ = some (.int .i64 za) ∧ w2.cell? ⟨w.heap.size, 1, none⟩ = some (.int .i64 zb)) := Lib.hid ⟨(hq.cell (p := ⟨_, 0, none⟩) zlt).trans zHC.out.1, (hq.cell (p := ⟨_, 1, none⟩) zlt).trans zHC.out.2⟩
    replace wH := Lib.hid (wH.out.new_call hb (by omega))
    clear hq
    clear hb
    have xHi1 := Lib.hid xi1
    clear xi1
    obtain ⟨cb0_0, cb0_1⟩ := zHC.out
    have cl0 : w.heap.size < w2.heap.size := by omega
    go_wp2_with fail
    refine (toSpan_any za zb _).mono ?_
    rintro e w3 ⟨rfl, hb⟩
    have hs2 := hb.size
    have hq : Below w0.heap.size w2 w3 := hb.mono (by omega)
    replace HB := Lib.hid (HB.out.trans (hq.mono hw0))
    replace xsHh1 := Lib.hid (xsHh1.out.at_below hq)
    replace zHC : Hid (w3.cell? ⟨w.heap.size, 0, none⟩ = some (.int .i64 za) ∧ w3.cell? ⟨w.heap.size, 1, none⟩ = some (.int .i64 zb)) := Lib.hid ⟨(hq.cell (p := ⟨_, 0, none⟩) zlt).trans zHC.out.1, (hq.cell (p := ⟨_, 1, none⟩) zlt).trans zHC.out.2⟩
    replace wH := Lib.hid (wH.out.new_call hb (by omega))
    replace xHi1 := Lib.hid (xHi1.out.new_call hb (by omega))
    clear hq
    clear hb
    clear cb0_0 cb0_1
    clear cl0
    go_wp2_with fail
    refine (implFree_any _ _ _ xs za zb _ (xHi1.out.to_below (by omega)) xsf).mono ?_
    rintro e w4 ⟨gA, gc, rfl, gi, hb⟩
    have hs3 := hb.size
    have hq : Below w0.heap.size w3 w4 := hb.mono (by omega)
    replace HB := Lib.hid (HB.out.trans (hq.mono hw0))
    replace xsHh1 := Lib.hid (xsHh1.out.at_below hq)
    replace zHC : Hid (w4.cell? ⟨w.heap.size, 0, none⟩ = some (.int .i64 za) ∧ w4.cell? ⟨w.heap.size, 1, none⟩ = some (.int .i64 zb)) := Lib.hid ⟨(hq.cell (p := ⟨_, 0, none⟩) zlt).trans zHC.out.1, (hq.cell (p := ⟨_, 1, none⟩) zlt).trans zHC.out.2⟩
    replace wH := Lib.hid (wH.out.new_call hb (by omega))
    replace xHi1 := Lib.hid (xHi1.out.new_call hb (by omega))
    clear hq
    clear hb
    have gH := Lib.hid gi
    clear gi
    go_wp2_with fail
    refine (eqSpanS_same _ _ _ _ (fsL xs za zb) _ (gH.out.to_below (by omega)) (wH.out.to_below (by omega)) rlen).mono ?_
    rintro e w5 ⟨rfl, hb⟩
    have hs4 := hb.size
    have hq : Below w0.heap.size w4 w5 := hb.mono (by omega)
    replace HB := Lib.hid (HB.out.trans (hq.mono hw0))
    replace xsHh1 := Lib.hid (xsHh1.out.at_below hq)
    replace zHC : Hid (w5.cell? ⟨w.heap.size, 0, none⟩ = some (.int .i64 za) ∧ w5.cell? ⟨w.heap.size, 1, none⟩ = some (.int .i64 zb)) := Lib.hid ⟨(hq.cell (p := ⟨_, 0, none⟩) zlt).trans zHC.out.1, (hq.cell (p := ⟨_, 1, none⟩) zlt).trans zHC.out.2⟩
    replace wH := Lib.hid (wH.out.new_call hb (by omega))
    replace xHi1 := Lib.hid (xHi1.out.new_call hb (by omega))
    replace gH := Lib.hid (gH.out.new_call hb (by omega))
    clear hq
    clear hb
    go_wp2_with fail
    refine (toSpanS_new _ _ xs _ (xsHh1.out.mono (Zone.below_le (by omega))) xsf).mono ?_
    rintro e w6 ⟨mg, rfl, _, _, mi1, hb⟩
    have hs5 := hb.size
    have hq : Below w0.heap.size w5 w6 := hb.mono (by omega)
    replace HB := Lib.hid (HB.out.trans (hq.mono hw0))
    replace xsHh1 := Lib.hid (xsHh1.out.at_below hq)
    replace zHC : Hid (w6.cell? ⟨w.heap.size, 0, none⟩ = some (.int .i64 za) ∧ w6.cell? ⟨w.heap.size, 1, none⟩ = some (.int .i64 zb)) := Lib.hid ⟨(hq.cell (p := ⟨_, 0, none⟩) zlt).trans zHC.out.1, (hq.cell (p := ⟨_, 1, none⟩) zlt).trans zHC.out.2⟩
    replace wH := Lib.hid (wH.out.new_call hb (by omega))
    replace xHi1 := Lib.hid (xHi1.out.new_call hb (by omega))
    replace gH := Lib.hid (gH.out.new_call hb (by omega))
    clear hq
    clear hb
    have mHi1 := Lib.hid mi1
    clear mi1
    go_wp2_with fail
    refine (eqSpanS_same _ _ _ _ xs _ (xHi1.out.to_below (by omega)) (mHi1.out.to_below (by omega)) xsf).mono ?_
    rintro e w7 ⟨rfl, hb⟩
    have hs6 := hb.size
    have hq : Below w0.heap.size w6 w7 := hb.mono (by omega)
    replace HB := Lib.hid (HB.out.trans (hq.mono hw0))
    replace xsHh1 := Lib.hid (xsHh1.out.at_below hq)
    replace zHC : Hid (w7.cell? ⟨w.heap.size, 0, none⟩ = some (.int .i64 za) ∧ w7.cell? ⟨w.heap.size, 1, none⟩ = some (.int .i64 zb)) := Lib.hid ⟨(hq.cell (p := ⟨_, 0, none⟩) zlt).trans zHC.out.1, (hq.cell (p := ⟨_, 1, none⟩) zlt).trans zHC.out.2⟩
    replace wH := Lib.hid (wH.out.new_call hb (by omega))
    replace xHi1 := Lib.hid (xHi1.out.new_call hb (by omega))
    replace gH := Lib.hid (gH.out.new_call hb (by omega))
    replace mHi1 := Lib.hid (mHi1.out.new_call hb (by omega))
    clear hq
    clear hb
    clear mHi1
    go_wp2_with fail
    have hmk := markSpanS_any w1.heap.size w2.heap.size _ xs.length xs 1 _ xHi1.out xsf (by omega)
    push_cast at hmk
    refine hmk.mono ?_
    rintro e w8 ⟨rfl, hm⟩
    clear hmk
    clear xHi1
    have hs7 := hm.size
    have hq : Below w0.heap.size w7 w8 := (hm.below (by omega)).mono (by omega)
    replace HB := Lib.hid (HB.out.trans (hq.mono hw0))
    replace xsHh1 := Lib.hid (xsHh1.out.at_below hq)
    replace zHC : Hid (w8.cell? ⟨w.heap.size, 0, none⟩ = some (.int .i64 za) ∧ w8.cell? ⟨w.heap.size, 1, none⟩ = some (.int .i64 zb)) := Lib.hid ⟨(hq.cell (p := ⟨_, 0, none⟩) zlt).trans zHC.out.1, (hq.cell (p := ⟨_, 1, none⟩) zlt).trans zHC.out.2⟩
    replace wH := Lib.hid (wH.out.keep fun c hc => hm.same (by have := hc.1; have := hc.2; omega) (by have := hc.1; have := hc.2; omega))
    replace gH := Lib.hid (gH.out.keep fun c hc => hm.same (by have := hc.1; have := hc.2; omega) (by have := hc.1; have := hc.2; omega))
    clear hq
    clear hm
    skip
    have hkk : decide ((1 : Int) + ((2 * xs.length : Nat) : Int) < 0) = false := by simp; omega
    push_cast at hkk
    go_wp2_with fail
    refine (eqSpanS_same _ _ _ _ (fsL xs za zb) _ (gH.out.to_below (by omega)) (wH.out.to_below (by omega)) rlen).mono ?_
    rintro e w9 ⟨rfl, hb⟩
    have hs8 := hb.size
    have hq : Below w0.heap.size w8 w9 := hb.mono (by omega)
    replace HB := Lib.hid (HB.out.trans (hq.mono hw0))
    replace xsHh1 := Lib.hid (xsHh1.out.at_below hq)
    replace zHC : Hid (w9.cell? ⟨w.heap.size, 0, none⟩ = some (.int .i64 za) ∧ w9.cell? ⟨w.heap.size, 1, none⟩ = some (.int .i64 zb)) := Lib.hid ⟨(hq.cell (p := ⟨_, 0, none⟩) zlt).trans zHC.out.1, (hq.cell (p := ⟨_, 1, none⟩) zlt).trans zHC.out.2⟩
    replace wH := Lib.hid (wH.out.new_call hb (by omega))
    replace gH := Lib.hid (gH.out.new_call hb (by omega))
    clear hq
    clear hb
    go_wp2_with fail
    have hmk := markSpanS_res w3.heap.size w4.heap.size gA gc (fsL xs za zb) 1 _ gH.out rlen (by omega)
    push_cast at hmk
    refine hmk.mono ?_
    rintro e w10 ⟨rfl, hm, gj⟩
    clear hmk
    clear gH
    have hs9 := hm.size
    have hq : Below w0.heap.size w9 w10 := (hm.below (by omega)).mono (by omega)
    replace HB := Lib.hid (HB.out.trans (hq.mono hw0))
    replace xsHh1 := Lib.hid (xsHh1.out.at_below hq)
    replace zHC : Hid (w10.cell? ⟨w.heap.size, 0, none⟩ = some (.int .i64 za) ∧ w10.cell? ⟨w.heap.size, 1, none⟩ = some (.int .i64 zb)) := Lib.hid ⟨(hq.cell (p := ⟨_, 0, none⟩) zlt).trans zHC.out.1, (hq.cell (p := ⟨_, 1, none⟩) zlt).trans zHC.out.2⟩
    replace wH := Lib.hid (wH.out.keep fun c hc => hm.same (by have := hc.1; have := hc.2; omega) (by have := hc.1; have := hc.2; omega))
    clear hq
    clear hm
    have gM := Lib.hid gj
    clear gj
    have hkr : decide ((1 : Int) + ((2 * (fsL xs za zb).length : Nat) : Int) < 0) = false := by simp; omega
    push_cast at hkr
    go_wp2_with fail
    have hhd := heldSpanS_any gA gc (fsL xs za zb).length 1 _ _ (gM.out.to_below (by omega)) rlen (by omega)
    push_cast at hhd
    refine hhd.mono ?_
    rintro e w11 ⟨rfl, rfl⟩
    clear hhd
    go_wp2_with fail
    have hV : ∀ w', Below w10.heap.size w10 w' → (w'.cell? ⟨w.heap.size, 0, none⟩ = some (.int .i64 za) ∧ w'.cell? ⟨w.heap.size, 1, none⟩ = some (.int .i64 zb)) := fun w' hb => (have hq := hb.mono (by omega : w0.heap.size ≤ w10.heap.size); ⟨(hq.cell (p := ⟨_, 0, none⟩) zlt).trans zHC.out.1, (hq.cell (p := ⟨_, 1, none⟩) zlt).trans zHC.out.2⟩)
    go_region_held3 (fun w' => Below w10.heap.size w10 w') (repeat' first | assumption | exact Nat.le_refl _ | exact Below.refl _ _ | (refine bel_drew ?_) | (refine bel_alloc ?_ _) | (refine bel_set ?_ ?_ _))
      (first
        | (go_at_call 45; (with_reducible refine (toSpanS_new _ _ xs _ ((xsHh1.out.mono (Zone.below_le (by omega))).call ‹Below w10.heap.size w10 _›) xsf).mono ?_); rintro e wp ⟨yg, rfl, _, _, yi1, hb5⟩; have hB5 := bel_call ‹Below w10.heap.size w10 _› hb5; have yHi1 := Lib.hid (yi1.to_below (Nat.le_refl _)); clear yi1 hb5)
        | (go_at_call 53; refine (toSpan_any za zb _).mono ?_; rintro e wp2 ⟨rfl, hb7⟩; have hB7 := bel_call ‹Below w10.heap.size w10 _› hb7; (try have yNi1 := Lib.hid (yHi1.out.call hb7)); clear hb7)
        | (go_at_call 54; refine (implFree_any _ _ _ xs za zb _ (by first | exact yNi1.out | exact yHi1.out) xsf).mono ?_; rintro e wz ⟨hA, hc, rfl, hi, hb6⟩; have hz6 := (‹Below w10.heap.size w10 _› : Below w10.heap.size w10 _).size; have hb := bel_call ‹Below w10.heap.size w10 _› hb6; clear hb6))
    all_goals
      clear hV
      generalize wz = w11 at *
      have hH := Lib.hid (hi.mono (Zone.new_le (b' := w11.heap.size) hz6 (Nat.le_refl _)))
      clear hi hz6
      have hs10 := hb.size
      have hq : Below w0.heap.size w10 w11 := hb.mono (by omega)
      replace HB := Lib.hid (HB.out.trans (hq.mono hw0))
      replace xsHh1 := Lib.hid (xsHh1.out.at_below hq)
      replace zHC : Hid (w11.cell? ⟨w.heap.size, 0, none⟩ = some (.int .i64 za) ∧ w11.cell? ⟨w.heap.size, 1, none⟩ = some (.int .i64 zb)) := Lib.hid ⟨(hq.cell (p := ⟨_, 0, none⟩) zlt).trans zHC.out.1, (hq.cell (p := ⟨_, 1, none⟩) zlt).trans zHC.out.2⟩
      replace wH := Lib.hid (wH.out.new_call hb (by omega))
      replace gM := Lib.hid (gM.out.new_call hb (by omega))
      clear hq
      clear hb
      go_wp2_with fail
      refine (eqSpanS_same _ _ _ _ (fsL xs za zb) _ (hH.out.to_below (by omega)) (wH.out.to_below (by omega)) rlen).mono ?_
      rintro e w12 ⟨rfl, hb⟩
      have hs11 := hb.size
      have hq : Below w0.heap.size w11 w12 := hb.mono (by omega)
      replace HB := Lib.hid (HB.out.trans (hq.mono hw0))
      replace xsHh1 := Lib.hid (xsHh1.out.at_below hq)
      replace zHC : Hid (w12.cell? ⟨w.heap.size, 0, none⟩ = some (.int .i64 za) ∧ w12.cell? ⟨w.heap.size, 1, none⟩ = some (.int .i64 zb)) := Lib.hid ⟨(hq.cell (p := ⟨_, 0, none⟩) zlt).trans zHC.out.1, (hq.cell (p := ⟨_, 1, none⟩) zlt).trans zHC.out.2⟩
      replace wH := Lib.hid (wH.out.new_call hb (by omega))
      replace gM := Lib.hid (gM.out.new_call hb (by omega))
      replace hH := Lib.hid (hH.out.new_call hb (by omega))
      clear hq
      clear hb
      go_wp2_with fail
      have hhd := heldSpanS_any gA gc (fsL xs za zb).length 1 _ _ (gM.out.to_below (by omega)) rlen (by omega)
      push_cast at hhd
      refine hhd.mono ?_
      rintro e w13 ⟨rfl, rfl⟩
      clear hhd
      go_wp2_with fail
      go_ret
      exact ⟨rfl, HB.out⟩

end Go.Proofs.Ytambgommeannnaa
