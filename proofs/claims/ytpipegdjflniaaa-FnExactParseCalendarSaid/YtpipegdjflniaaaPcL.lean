/- The walk of the law of ParseCalendar. -/
import Derived.Test.YtpipegdjflniaaaPci
import Derived.Test.YtpipegdjflniaaaPcj
namespace Go.Proofs.Ytpipegdjflniaaa
open Go.ChangeShapes Go.WideShapes Go.ChangeAt Go.RowKit Go.PlainAid
set_option linter.unusedVariables false
set_option linter.unusedSimpArgs false

theorem pk_len (l : List UInt8) : (pkV l).2.2.2.1.length ≤ 1048576 ∧ (pkV l).2.2.2.2.length ≤ 1048576 := by
  unfold pkV
  cases h : psC l with
  | none => simp
  | some c =>
    obtain ⟨f, t, d, us, vs⟩ := c
    obtain ⟨_, _, _, h4, h5, _, _⟩ := cal_bd (psC_sound h).1
    simp only [Option.getD_some]
    omega

set_option maxRecDepth 100000 in
set_option maxHeartbeats 4000000 in
theorem fnParseCalendar_walk (s : ByteArray) (ws : s.size ≤ maxLen) (w : World) :
    Calls Try.prog 3 #[.string s] w fun e w' => e = .returned (.bool true) ∧ Below w.heap.size w w' := by
  unfold maxLen at ws
  have hb0 : Below w.heap.size w w := by go_grown
  have HB := Lib.hid hb0
  have hw0 : w.heap.size ≤ w.heap.size := hb0.size
  clear hb0
  by_cases cuts : 1048576 < s.size
  · go_enter Try.func3, Try.ntmps3
    go_wp2_with fail
    go_ret
    exact ⟨rfl, by go_grown⟩
  have rn := (pk_len s.data.toList).1
  have rm := (pk_len s.data.toList).2
  go_enter Try.func3, Try.ntmps3
  go_wp2_with fail
  obtain ⟨w0, rfl⟩ : ∃ w0 : World, w0 = w := ⟨_, rfl⟩
  go_wp2_with fail
  refine (specParseCalendar_any s _ (by omega)).mono ?_
  rintro e w1 ⟨wA, wca, wR, wcr, rfl, wi, hb⟩
  have hs0 := hb.size
  have hq : Below w0.heap.size w0 w1 := hb.mono (by omega)
  replace HB := Lib.hid (HB.out.trans (hq.mono hw0))
  clear hq
  clear hb
  have wH := Lib.hid wi
  clear wi
  go_wp2_with fail
  have hb : Below w1.heap.size w1 (w1.alloc (.cells #[.int .i64 (pkV s.data.toList).1, .int .i64 (pkV s.data.toList).2.1, .int .i64 (pkV s.data.toList).2.2.1, .slice wA (pkV s.data.toList).2.2.2.1.length wca, .slice wR (pkV s.data.toList).2.2.2.2.length wcr] 24)) := by go_grown
  have wB : Hid (Cal5 (w1.alloc (.cells #[.int .i64 (pkV s.data.toList).1, .int .i64 (pkV s.data.toList).2.1, .int .i64 (pkV s.data.toList).2.2.1, .slice wA (pkV s.data.toList).2.2.2.1.length wca, .slice wR (pkV s.data.toList).2.2.2.2.length wcr] 24)) w1.heap.size (pkV s.data.toList).1 (pkV s.data.toList).2.1 (pkV s.data.toList).2.2.1 wA (pkV s.data.toList).2.2.2.1.length wca wR (pkV s.data.toList).2.2.2.2.length wcr) := Lib.hid (by refine ⟨?_, ?_, ?_, ?_, ?_⟩ <;> go_simp)
  have wBlt : w1.heap.size < (w1.alloc (.cells #[.int .i64 (pkV s.data.toList).1, .int .i64 (pkV s.data.toList).2.1, .int .i64 (pkV s.data.toList).2.2.1, .slice wA (pkV s.data.toList).2.2.2.1.length wca, .slice wR (pkV s.data.toList).2.2.2.2.length wcr] 24)).heap.size := by simp
  generalize (w1.alloc (.cells #[.int .i64 (pkV s.data.toList).1, .int .i64 (pkV s.data.toList).2.1, .int .i64 (pkV s.data.toList).2.2.1, .slice wA (pkV s.data.toList).2.2.2.1.length wca, .slice wR (pkV s.data.toList).2.2.2.2.length wcr] 24)) = w2 at *
  have hs1 := hb.size
  have hq : Below w0.heap.size w1 w2 := hb.mono (by omega)
  replace HB := Lib.hid (HB.out.trans (hq.mono hw0))
  replace wH := Lib.hid (wH.out.new_call hb (by omega))
  clear hq
  clear hb
  go_wp2_with fail
  refine (implParseCalendar_any s _ (by omega)).mono ?_
  rintro e w3 ⟨gA, gca, gR, gcr, rfl, gi, hb⟩
  have hs2 := hb.size
  have hq : Below w0.heap.size w2 w3 := hb.mono (by omega)
  replace HB := Lib.hid (HB.out.trans (hq.mono hw0))
  replace wH := Lib.hid (wH.out.new_call hb (by omega))
  replace wB := Lib.hid (wB.out.below hb (by omega))
  clear hq
  clear hb
  have gH := Lib.hid gi
  clear gi
  obtain ⟨cb0_0, cb0_1, cb0_2, cb0_3, cb0_4⟩ := wB.out
  have cl0 : w1.heap.size < w3.heap.size := by omega
  go_wp2_with fail
  have hb : Below w3.heap.size w3 (w3.alloc (.cells #[.int .i64 (pkV s.data.toList).1, .int .i64 (pkV s.data.toList).2.1, .int .i64 (pkV s.data.toList).2.2.1, .slice gA (pkV s.data.toList).2.2.2.1.length gca, .slice gR (pkV s.data.toList).2.2.2.2.length gcr] 24)) := by go_grown
  have gB : Hid (Cal5 (w3.alloc (.cells #[.int .i64 (pkV s.data.toList).1, .int .i64 (pkV s.data.toList).2.1, .int .i64 (pkV s.data.toList).2.2.1, .slice gA (pkV s.data.toList).2.2.2.1.length gca, .slice gR (pkV s.data.toList).2.2.2.2.length gcr] 24)) w3.heap.size (pkV s.data.toList).1 (pkV s.data.toList).2.1 (pkV s.data.toList).2.2.1 gA (pkV s.data.toList).2.2.2.1.length gca gR (pkV s.data.toList).2.2.2.2.length gcr) := Lib.hid (by refine ⟨?_, ?_, ?_, ?_, ?_⟩ <;> go_simp)
  have gBlt : w3.heap.size < (w3.alloc (.cells #[.int .i64 (pkV s.data.toList).1, .int .i64 (pkV s.data.toList).2.1, .int .i64 (pkV s.data.toList).2.2.1, .slice gA (pkV s.data.toList).2.2.2.1.length gca, .slice gR (pkV s.data.toList).2.2.2.2.length gcr] 24)).heap.size := by simp
  generalize (w3.alloc (.cells #[.int .i64 (pkV s.data.toList).1, .int .i64 (pkV s.data.toList).2.1, .int .i64 (pkV s.data.toList).2.2.1, .slice gA (pkV s.data.toList).2.2.2.1.length gca, .slice gR (pkV s.data.toList).2.2.2.2.length gcr] 24)) = w4 at *
  have hs3 := hb.size
  have hq : Below w0.heap.size w3 w4 := hb.mono (by omega)
  replace HB := Lib.hid (HB.out.trans (hq.mono hw0))
  replace wH := Lib.hid (wH.out.new_call hb (by omega))
  replace wB := Lib.hid (wB.out.below hb (by omega))
  replace gH := Lib.hid (gH.out.new_call hb (by omega))
  clear hq
  clear hb
  clear cb0_0 cb0_1 cb0_2 cb0_3 cb0_4
  clear cl0
  obtain ⟨cb0_0, cb0_1, cb0_2, cb0_3, cb0_4⟩ := gB.out
  have cl0 : w3.heap.size < w4.heap.size := by omega
  obtain ⟨cb1_0, cb1_1, cb1_2, cb1_3, cb1_4⟩ := wB.out
  have cl1 : w1.heap.size < w4.heap.size := by omega
  go_wp2_with fail
  refine (eqCalendar_sameZ (pkV s.data.toList).1 (pkV s.data.toList).2.1 (pkV s.data.toList).2.2.1 _ _ _ _ _ _ _ _ (pkV s.data.toList).2.2.2.1 (pkV s.data.toList).2.2.2.2 _ (gH.out.to_below (by omega)).u (gH.out.to_below (by omega)).v (wH.out.to_below (by omega)).u (wH.out.to_below (by omega)).v rn rm).mono ?_
  rintro e w5 ⟨rfl, hb⟩
  have hs4 := hb.size
  have hq : Below w0.heap.size w4 w5 := hb.mono (by omega)
  replace HB := Lib.hid (HB.out.trans (hq.mono hw0))
  replace wH := Lib.hid (wH.out.new_call hb (by omega))
  replace wB := Lib.hid (wB.out.below hb (by omega))
  replace gH := Lib.hid (gH.out.new_call hb (by omega))
  replace gB := Lib.hid (gB.out.below hb (by omega))
  clear hq
  clear hb
  clear cb0_0 cb0_1 cb0_2 cb0_3 cb0_4
  clear cl0
  clear cb1_0 cb1_1 cb1_2 cb1_3 cb1_4
  clear cl1
  obtain ⟨cb0_0, cb0_1, cb0_2, cb0_3, cb0_4⟩ := gB.out
  have cl0 : w3.heap.size < w5.heap.size := by omega
  go_wp2_with fail
  have hmk := markCalendar_own w2.heap.size w3.heap.size (pkV s.data.toList).1 (pkV s.data.toList).2.1 (pkV s.data.toList).2.2.1 gA gR gca gcr (pkV s.data.toList).2.2.2.1 (pkV s.data.toList).2.2.2.2 1 _ gH.out (by omega) rn rm (by omega)
  push_cast at hmk
  refine hmk.mono ?_
  rintro e w6 ⟨rfl, hm, gj⟩
  clear hmk
  clear cb0_0 cb0_1 cb0_2 cb0_3 cb0_4
  clear cl0
  clear gH
  have hs5 := hm.size
  have hq : Below w0.heap.size w5 w6 := (hm.below (by omega)).mono (by omega)
  replace HB := Lib.hid (HB.out.trans (hq.mono hw0))
  replace wH := Lib.hid (wH.out.keep fun c hc => hm.same (by have := hc.1; have := hc.2; omega) (by have := hc.1; have := hc.2; omega))
  replace wB : Hid (Cal5 w6 w1.heap.size (pkV s.data.toList).1 (pkV s.data.toList).2.1 (pkV s.data.toList).2.2.1 wA (pkV s.data.toList).2.2.2.1.length wca wR (pkV s.data.toList).2.2.2.2.length wcr) := Lib.hid (by have hcc := wB.out; unfold Cal5 at hcc ⊢; simp only [(hm.same (b := w1.heap.size) (by omega) (by omega) _).1]; exact hcc)
  replace gB : Hid (Cal5 w6 w3.heap.size (pkV s.data.toList).1 (pkV s.data.toList).2.1 (pkV s.data.toList).2.2.1 gA (pkV s.data.toList).2.2.2.1.length gca gR (pkV s.data.toList).2.2.2.2.length gcr) := Lib.hid (by have hcc := gB.out; unfold Cal5 at hcc ⊢; simp only [(hm.same (b := w3.heap.size) (by omega) (by omega) _).1]; exact hcc)
  clear hq
  clear hm
  have gM := Lib.hid gj
  clear gj
  have hkr : decide ((1 : Int) + ((((pkV s.data.toList).2.2.2.1.length + (pkV s.data.toList).2.2.2.2.length : Nat) : Nat) : Int) < 0) = false := by simp; omega
  push_cast at hkr
  obtain ⟨cb0_0, cb0_1, cb0_2, cb0_3, cb0_4⟩ := gB.out
  have cl0 : w3.heap.size < w6.heap.size := by omega
  go_wp2_with fail
  have hhd := heldCalendar_any (pkV s.data.toList).1 (pkV s.data.toList).2.1 (pkV s.data.toList).2.2.1 gA gR gca gcr (pkV s.data.toList).2.2.2.1.length (pkV s.data.toList).2.2.2.2.length 1 _ (gM.out.to_below (by omega)) rn rm (by omega)
  push_cast at hhd
  refine hhd.mono ?_
  rintro e w7 ⟨rfl, hb⟩
  clear hhd
  have hs6 := hb.size
  have hq : Below w0.heap.size w6 w7 := hb.mono (by omega)
  replace HB := Lib.hid (HB.out.trans (hq.mono hw0))
  replace wH := Lib.hid (wH.out.new_call hb (by omega))
  replace wB := Lib.hid (wB.out.below hb (by omega))
  replace gB := Lib.hid (gB.out.below hb (by omega))
  replace gM := Lib.hid (gM.out.new_call hb (by omega))
  clear hq
  clear hb
  clear cb0_0 cb0_1 cb0_2 cb0_3 cb0_4
  clear cl0
  go_wp2_with fail
  refine (implParseCalendar_any s _ (by omega)).mono ?_
  rintro e w8 ⟨hA, hca, hR, hcr, rfl, hi, hb⟩
  have hs7 := hb.size
  have hq : Below w0.heap.size w7 w8 := hb.mono (by omega)
  replace HB := Lib.hid (HB.out.trans (hq.mono hw0))
  replace wH := Lib.hid (wH.out.new_call hb (by omega))
  replace wB := Lib.hid (wB.out.below hb (by omega))
  replace gB := Lib.hid (gB.out.below hb (by omega))
  replace gM := Lib.hid (gM.out.new_call hb (by omega))
  clear hq
  clear hb
  have hH := Lib.hid hi
  clear hi
  obtain ⟨cb0_0, cb0_1, cb0_2, cb0_3, cb0_4⟩ := wB.out
  have cl0 : w1.heap.size < w8.heap.size := by omega
  go_wp2_with fail
  have hb : Below w8.heap.size w8 (w8.alloc (.cells #[.int .i64 (pkV s.data.toList).1, .int .i64 (pkV s.data.toList).2.1, .int .i64 (pkV s.data.toList).2.2.1, .slice hA (pkV s.data.toList).2.2.2.1.length hca, .slice hR (pkV s.data.toList).2.2.2.2.length hcr] 24)) := by go_grown
  have hB : Hid (Cal5 (w8.alloc (.cells #[.int .i64 (pkV s.data.toList).1, .int .i64 (pkV s.data.toList).2.1, .int .i64 (pkV s.data.toList).2.2.1, .slice hA (pkV s.data.toList).2.2.2.1.length hca, .slice hR (pkV s.data.toList).2.2.2.2.length hcr] 24)) w8.heap.size (pkV s.data.toList).1 (pkV s.data.toList).2.1 (pkV s.data.toList).2.2.1 hA (pkV s.data.toList).2.2.2.1.length hca hR (pkV s.data.toList).2.2.2.2.length hcr) := Lib.hid (by refine ⟨?_, ?_, ?_, ?_, ?_⟩ <;> go_simp)
  have hBlt : w8.heap.size < (w8.alloc (.cells #[.int .i64 (pkV s.data.toList).1, .int .i64 (pkV s.data.toList).2.1, .int .i64 (pkV s.data.toList).2.2.1, .slice hA (pkV s.data.toList).2.2.2.1.length hca, .slice hR (pkV s.data.toList).2.2.2.2.length hcr] 24)).heap.size := by simp
  generalize (w8.alloc (.cells #[.int .i64 (pkV s.data.toList).1, .int .i64 (pkV s.data.toList).2.1, .int .i64 (pkV s.data.toList).2.2.1, .slice hA (pkV s.data.toList).2.2.2.1.length hca, .slice hR (pkV s.data.toList).2.2.2.2.length hcr] 24)) = w9 at *
  have hs8 := hb.size
  have hq : Below w0.heap.size w8 w9 := hb.mono (by omega)
  replace HB := Lib.hid (HB.out.trans (hq.mono hw0))
  replace wH := Lib.hid (wH.out.new_call hb (by omega))
  replace wB := Lib.hid (wB.out.below hb (by omega))
  replace gB := Lib.hid (gB.out.below hb (by omega))
  replace gM := Lib.hid (gM.out.new_call hb (by omega))
  replace hH := Lib.hid (hH.out.new_call hb (by omega))
  clear hq
  clear hb
  clear cb0_0 cb0_1 cb0_2 cb0_3 cb0_4
  clear cl0
  obtain ⟨cb0_0, cb0_1, cb0_2, cb0_3, cb0_4⟩ := hB.out
  have cl0 : w8.heap.size < w9.heap.size := by omega
  obtain ⟨cb1_0, cb1_1, cb1_2, cb1_3, cb1_4⟩ := wB.out
  have cl1 : w1.heap.size < w9.heap.size := by omega
  go_wp2_with fail
  refine (eqCalendar_sameZ (pkV s.data.toList).1 (pkV s.data.toList).2.1 (pkV s.data.toList).2.2.1 _ _ _ _ _ _ _ _ (pkV s.data.toList).2.2.2.1 (pkV s.data.toList).2.2.2.2 _ (hH.out.to_below (by omega)).u (hH.out.to_below (by omega)).v (wH.out.to_below (by omega)).u (wH.out.to_below (by omega)).v rn rm).mono ?_
  rintro e w10 ⟨rfl, hb⟩
  have hs9 := hb.size
  have hq : Below w0.heap.size w9 w10 := hb.mono (by omega)
  replace HB := Lib.hid (HB.out.trans (hq.mono hw0))
  replace wH := Lib.hid (wH.out.new_call hb (by omega))
  replace wB := Lib.hid (wB.out.below hb (by omega))
  replace gB := Lib.hid (gB.out.below hb (by omega))
  replace gM := Lib.hid (gM.out.new_call hb (by omega))
  replace hH := Lib.hid (hH.out.new_call hb (by omega))
  replace hB := Lib.hid (hB.out.below hb (by omega))
  clear hq
  clear hb
  clear cb0_0 cb0_1 cb0_2 cb0_3 cb0_4
  clear cl0
  clear cb1_0 cb1_1 cb1_2 cb1_3 cb1_4
  clear cl1
  obtain ⟨cb0_0, cb0_1, cb0_2, cb0_3, cb0_4⟩ := gB.out
  have cl0 : w3.heap.size < w10.heap.size := by omega
  go_wp2_with fail
  have hhd := heldCalendar_any (pkV s.data.toList).1 (pkV s.data.toList).2.1 (pkV s.data.toList).2.2.1 gA gR gca gcr (pkV s.data.toList).2.2.2.1.length (pkV s.data.toList).2.2.2.2.length 1 _ (gM.out.to_below (by omega)) rn rm (by omega)
  push_cast at hhd
  refine hhd.mono ?_
  rintro e w11 ⟨rfl, hb⟩
  clear hhd
  have hs10 := hb.size
  have hq : Below w0.heap.size w10 w11 := hb.mono (by omega)
  replace HB := Lib.hid (HB.out.trans (hq.mono hw0))
  replace wH := Lib.hid (wH.out.new_call hb (by omega))
  replace wB := Lib.hid (wB.out.below hb (by omega))
  replace gB := Lib.hid (gB.out.below hb (by omega))
  replace gM := Lib.hid (gM.out.new_call hb (by omega))
  replace hH := Lib.hid (hH.out.new_call hb (by omega))
  replace hB := Lib.hid (hB.out.below hb (by omega))
  clear hq
  clear hb
  clear cb0_0 cb0_1 cb0_2 cb0_3 cb0_4
  clear cl0
  go_wp2_with fail
  go_ret
  exact ⟨rfl, HB.out⟩

end Go.Proofs.Ytpipegdjflniaaa
