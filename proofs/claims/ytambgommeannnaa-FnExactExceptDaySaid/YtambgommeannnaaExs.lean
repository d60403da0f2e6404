/- ExceptDay: the reference's contract. -/
import Derived.Test.YtambgommeannnaaExu
import Derived.Test.YtambgommeannnaaPun
import Derived.Test.YtambgommeannnaaCalM
namespace Go.Proofs.Ytambgommeannnaa
open Go.ChangeShapes Go.WideShapes Go.ChangeAt Go.RowKit Go.PlainAid
set_option linter.unusedVariables false
set_option linter.unusedSimpArgs false

set_option maxRecDepth 100000 in
set_option maxHeartbeats 8000000 in
theorem specExcept_any (f t d : Int) (bu ou ca bv ov cr : Nat) (us vs : List Int) (day : Int) (r : Bool) (w : World) (h1 : IntsIn w (Zone.below w.heap.size) (some ⟨bu, ou, none⟩) us) (h2 : IntsIn w (Zone.below w.heap.size) (some ⟨bv, ov, none⟩) vs) (hn : us.length ≤ 1048576) (hm : vs.length ≤ 1048576) :
    Calls Try.prog 33 #[.agg #[.int .i64 f, .int .i64 t, .int .i64 d, .slice (some ⟨bu, ou, none⟩) us.length ca, .slice (some ⟨bv, ov, none⟩) vs.length cr], .int .i64 day, .bool r] w (RetCal (exI f t d us vs day r f) (exI f t d us vs day r t) (exI f t d us vs day r d) (exX f t d us vs day r (exU d us day r)) (exX f t d us vs day r (exV d vs day r)) (exB f t d us vs day r) w) := by
  have hb0 : Below w.heap.size w ((w.alloc (.cells #[.int .i64 f, .int .i64 t, .int .i64 d, .slice (some ⟨bu, ou, none⟩) us.length ca, .slice (some ⟨bv, ov, none⟩) vs.length cr] 24)).alloc (.cells #[.int .i64 0, .int .i64 0, .int .i64 0, .slice none 0 0, .slice none 0 0] 24)) := by go_grown
  have HB0 := Lib.hid hb0
  have HC0 : Hid (FB ((w.alloc (.cells #[.int .i64 f, .int .i64 t, .int .i64 d, .slice (some ⟨bu, ou, none⟩) us.length ca, .slice (some ⟨bv, ov, none⟩) vs.length cr] 24)).alloc (.cells #[.int .i64 0, .int .i64 0, .int .i64 0, .slice none 0 0, .slice none 0 0] 24)) w.heap.size f t d (.slice (some ⟨bu, ou, none⟩) us.length ca) (.slice (some ⟨bv, ov, none⟩) vs.length cr)) := Lib.hid ⟨by go_simp, by go_simp, by go_simp, by go_simp, by go_simp, fun j => by go_simp, by simp <;> omega⟩
  have HZ0 : Hid (FB ((w.alloc (.cells #[.int .i64 f, .int .i64 t, .int .i64 d, .slice (some ⟨bu, ou, none⟩) us.length ca, .slice (some ⟨bv, ov, none⟩) vs.length cr] 24)).alloc (.cells #[.int .i64 0, .int .i64 0, .int .i64 0, .slice none 0 0, .slice none 0 0] 24)) (w.heap.size + 1) 0 0 0 (.slice none 0 0) (.slice none 0 0)) := Lib.hid ⟨by go_simp, by go_simp, by go_simp, by go_simp, by go_simp, fun j => by go_simp, by simp⟩
  have HI1 := Lib.hid h1
  have HI2 := Lib.hid h2
  have hz0 : w.heap.size + 2 ≤ ((w.alloc (.cells #[.int .i64 f, .int .i64 t, .int .i64 d, .slice (some ⟨bu, ou, none⟩) us.length ca, .slice (some ⟨bv, ov, none⟩) vs.length cr] 24)).alloc (.cells #[.int .i64 0, .int .i64 0, .int .i64 0, .slice none 0 0, .slice none 0 0] 24)).heap.size := by simp
  clear h1 h2 hb0
  cases hcal : calB f t d us vs
  · have HN := Lib.hid (exB_h (r := r) (show exH f t d us vs day = false by unfold exH; rw [hcal]; rfl))
    go_enter Try.func33, Try.ntmps33
    go_wp2_with fail
    generalize ((w.alloc (.cells #[.int .i64 f, .int .i64 t, .int .i64 d, .slice (some ⟨bu, ou, none⟩) us.length ca, .slice (some ⟨bv, ov, none⟩) vs.length cr] 24)).alloc (.cells #[.int .i64 0, .int .i64 0, .int .i64 0, .slice none 0 0, .slice none 0 0] 24)) = w0 at *
    have i1 := HI1.out.at_below HB0.out
    have i2 := HI2.out.at_below HB0.out
    have hzz := HB0.out.size
    refine (l3Good_any f t d _ _ _ _ us vs w0 (IntsIn.at (i1.mono (Zone.below_le hzz))) (IntsIn.at (i2.mono (Zone.below_le hzz))) hn hm).mono ?_
    rintro e w1 ⟨rfl, hb1⟩
    rw [hcal]
    have HC1 := Lib.hid (HC0.out.below hb1 HC0.out.lt)
    have HZ1 := Lib.hid (HZ0.out.below hb1 HZ0.out.lt)
    have HB1 := Lib.hid (HB0.out.trans (hb1.mono hzz))
    have hz1 := hb1.size
    clear i1 i2 hb1
    obtain ⟨c0, c1, c2, c3, c4, c5, c6⟩ := HC1.out
    obtain ⟨z0, z1, z2, z3, z4, z5, z6⟩ := HZ1.out
    go_wp2_with (go_at_call 69; refine (l1In_any _ _ _ _).mono ?_; rintro e wd ⟨rfl, rfl⟩)
    refine bodyPost_ret (v := .tuple #[.agg #[.int .i64 0, .int .i64 0, .int .i64 0, .slice none 0 0, .slice none 0 0], .bool false]) (by simp [results, Try.results33, go_sem, z0, z1, z2, z3, z4]) rfl ?_
    refine retExN HN.out ?_
    repeat' (refine Below.setCell ?_ (by simp) _)
    exact HB1.out
  have hok : CalOk f t d us vs := of_decide_eq_true hcal
  have hhd := hok.1
  unfold HeadB at hhd
  have HUu := Lib.hid (up_of hok.2.1)
  have HUv := Lib.hid (up_of hok.2.2.1)
  obtain ⟨q1, q2, q3, q4, q5, q6, q7⟩ := hhd
  clear hok
  cases hin : inB day f t
  · have HN := Lib.hid (exB_h (r := r) (show exH f t d us vs day = false by unfold exH; rw [hcal, hin]; rfl))
    go_enter Try.func33, Try.ntmps33
    go_wp2_with fail
    generalize ((w.alloc (.cells #[.int .i64 f, .int .i64 t, .int .i64 d, .slice (some ⟨bu, ou, none⟩) us.length ca, .slice (some ⟨bv, ov, none⟩) vs.length cr] 24)).alloc (.cells #[.int .i64 0, .int .i64 0, .int .i64 0, .slice none 0 0, .slice none 0 0] 24)) = w0 at *
    have i1 := HI1.out.at_below HB0.out
    have i2 := HI2.out.at_below HB0.out
    have hzz := HB0.out.size
    refine (l3Good_any f t d _ _ _ _ us vs w0 (IntsIn.at (i1.mono (Zone.below_le hzz))) (IntsIn.at (i2.mono (Zone.below_le hzz))) hn hm).mono ?_
    rintro e w1 ⟨rfl, hb1⟩
    rw [hcal]
    have HC1 := Lib.hid (HC0.out.below hb1 HC0.out.lt)
    have HZ1 := Lib.hid (HZ0.out.below hb1 HZ0.out.lt)
    have HB1 := Lib.hid (HB0.out.trans (hb1.mono hzz))
    have hz1 := hb1.size
    clear i1 i2 hb1
    obtain ⟨c0, c1, c2, c3, c4, c5, c6⟩ := HC1.out
    obtain ⟨z0, z1, z2, z3, z4, z5, z6⟩ := HZ1.out
    go_wp2_with (go_at_call 69; refine (l1In_any _ _ _ _).mono ?_; rintro e wd ⟨rfl, rfl⟩)
    refine bodyPost_ret (v := .tuple #[.agg #[.int .i64 0, .int .i64 0, .int .i64 0, .slice none 0 0, .slice none 0 0], .bool false]) (by simp [results, Try.results33, go_sem, z0, z1, z2, z3, z4]) rfl ?_
    refine retExN HN.out ?_
    repeat' (refine Below.setCell ?_ (by simp) _)
    exact HB1.out
  have g12 := inB_iff.1 hin
  have HH : Hid (exH f t d us vs day = true) := Lib.hid (by unfold exH; rw [hcal, hin]; rfl)
  have hd0 : 0 ≤ day := by omega
  have hd1 : day ≤ 3650 := by omega
  have hD0 : 0 ≤ d := by omega
  have hD1 : d ≤ 127 := by omega
  cases hu : wdB d day
  · cases r
    · skip
      obtain ⟨U0, hU0⟩ : ∃ U0, U0 = woL us day := ⟨_, rfl⟩
      obtain ⟨V0, hV0⟩ : ∃ V0, V0 = woL vs day := ⟨_, rfl⟩
      have HNU : Hid (∀ j, j < U0.length → nth U0 j ≠ day) := Lib.hid (by rw [hU0]; exact wo_ne us day)
      have HNV : Hid (∀ j, j < V0.length → nth V0 j ≠ day) := Lib.hid (by rw [hV0]; exact wo_ne vs day)
      have hlU : U0.length ≤ 1048576 := by rw [hU0]; have := woL_len us day; omega
      have hlV : V0.length ≤ 1048576 := by rw [hV0]; have := woL_len vs day; omega
      have HU : Hid (U0 = exU d us day false) := Lib.hid (by rw [hU0]; unfold exU; rw [hu]; rfl)
      have HV : Hid (V0 = exV d vs day false) := Lib.hid (by rw [hV0]; unfold exV; rw [hu]; rfl)
      have HW1 : Hid (∀ w', IntsIn w' (Zone.below w'.heap.size) (some ⟨bu, ou, none⟩) us → Calls Try.prog 100 #[.slice (some ⟨bu, ou, none⟩) us.length ca, .int .i64 day] w' (RetN w'.heap.size U0 w')) := Lib.hid (fun w' h => by rw [hU0]; exact l3Without_any bu ou ca us day w' h hn)
      have HW2 : Hid (∀ w', IntsIn w' (Zone.below w'.heap.size) (some ⟨bv, ov, none⟩) vs → Calls Try.prog 100 #[.slice (some ⟨bv, ov, none⟩) vs.length cr, .int .i64 day] w' (RetN w'.heap.size V0 w')) := Lib.hid (fun w' h => by rw [hV0]; exact l3Without_any bv ov cr vs day w' h hm)
      clear hU0 hV0
      go_enter Try.func33, Try.ntmps33
      go_wp2_with fail
      generalize ((w.alloc (.cells #[.int .i64 f, .int .i64 t, .int .i64 d, .slice (some ⟨bu, ou, none⟩) us.length ca, .slice (some ⟨bv, ov, none⟩) vs.length cr] 24)).alloc (.cells #[.int .i64 0, .int .i64 0, .int .i64 0, .slice none 0 0, .slice none 0 0] 24)) = w0 at *
      have i1 := HI1.out.at_below HB0.out
      have i2 := HI2.out.at_below HB0.out
      have hzz := HB0.out.size
      refine (l3Good_any f t d _ _ _ _ us vs w0 (IntsIn.at (i1.mono (Zone.below_le hzz))) (IntsIn.at (i2.mono (Zone.below_le hzz))) hn hm).mono ?_
      rintro e w1 ⟨rfl, hb1⟩
      rw [hcal]
      have HC1 := Lib.hid (HC0.out.below hb1 HC0.out.lt)
      have HZ1 := Lib.hid (HZ0.out.below hb1 HZ0.out.lt)
      have HB1 := Lib.hid (HB0.out.trans (hb1.mono hzz))
      have hz1 := hb1.size
      clear i1 i2 hb1
      obtain ⟨c0, c1, c2, c3, c4, c5, c6⟩ := HC1.out
      obtain ⟨z0, z1, z2, z3, z4, z5, z6⟩ := HZ1.out
      have HF3 : Hid (FB (w1.alloc (.cells #[.int .i64 f, .int .i64 t, .int .i64 d, .slice (some ⟨bu, ou, none⟩) us.length ca, .slice (some ⟨bv, ov, none⟩) vs.length cr] 24)) w1.heap.size f t d (.slice (some ⟨bu, ou, none⟩) us.length ca) (.slice (some ⟨bv, ov, none⟩) vs.length cr)) := Lib.hid ⟨by go_simp, by go_simp, by go_simp, by go_simp, by go_simp, fun j => by go_simp, by simp⟩
      have hb3 : Below w1.heap.size w1 (w1.alloc (.cells #[.int .i64 f, .int .i64 t, .int .i64 d, .slice (some ⟨bu, ou, none⟩) us.length ca, .slice (some ⟨bv, ov, none⟩) vs.length cr] 24)) := by go_grown
      have HC3 := Lib.hid (HC1.out.below hb3 HC1.out.lt)
      have HZ3 := Lib.hid (HZ1.out.below hb3 HZ1.out.lt)
      have HB3 := Lib.hid (HB1.out.trans (hb3.mono HB1.out.size))
      have hz3 : w1.heap.size < (w1.alloc (.cells #[.int .i64 f, .int .i64 t, .int .i64 d, .slice (some ⟨bu, ou, none⟩) us.length ca, .slice (some ⟨bv, ov, none⟩) vs.length cr] 24)).heap.size := by simp
      clear hb3
      go_wp2_with (go_at_call 69; refine (l1In_any _ _ _ _).mono ?_; rintro e wd ⟨rfl, rfl⟩)
      generalize (w1.alloc (.cells #[.int .i64 f, .int .i64 t, .int .i64 d, .slice (some ⟨bu, ou, none⟩) us.length ca, .slice (some ⟨bv, ov, none⟩) vs.length cr] 24)) = w3 at *
      have hw3 := HB3.out.size
      clear c0 c1 c2 c3 c4 c5 c6 z0 z1 z2 z3 z4 z5 z6
      refine (HW1.out w3 ((HI1.out.at_below HB3.out).mono (Zone.below_le hw3))).mono ?_
      rintro e w4 ⟨b1, o1, k1, rfl, hi1, hk1, hk1', hb4⟩
      have HF4 := Lib.hid (HF3.out.below hb4 HF3.out.lt)
      have HC4 := Lib.hid (HC3.out.below hb4 HC3.out.lt)
      have HZ4 := Lib.hid (HZ3.out.below hb4 HZ3.out.lt)
      have HB4 := Lib.hid (HB3.out.trans (hb4.mono hw3))
      have HK1 := Lib.hid (And.intro hk1 hk1')
      have hz4 := hb4.size
      have hne1 : w.heap.size ≠ w1.heap.size := by omega
      have hne2 : w.heap.size + 1 ≠ w1.heap.size := by omega
      have d3 := HF4.out.c3
      have d5 := HF4.out.fr 3
      have HC5 := Lib.hid (HC4.out.off (p := ⟨w1.heap.size, 3, none⟩) hne1 (.slice (some ⟨b1, o1, none⟩) U0.length k1))
      have HZ5 := Lib.hid (HZ4.out.off (p := ⟨w1.heap.size, 3, none⟩) hne2 (.slice (some ⟨b1, o1, none⟩) U0.length k1))
      have HF5 := Lib.hid (HF4.out.setA (.slice (some ⟨b1, o1, none⟩) U0.length k1))
      have HB5 := Lib.hid (HB4.out.setCell (p := ⟨w1.heap.size, 3, none⟩) (by show w.heap.size ≤ w1.heap.size; omega) (.slice (some ⟨b1, o1, none⟩) U0.length k1))
      have HA5 : Hid (IntsIn (w4.setCell ⟨w1.heap.size, 3, none⟩ (.slice (some ⟨b1, o1, none⟩) U0.length k1)) (Zone.new w3.heap.size w4.heap.size) (some ⟨b1, o1, none⟩) U0) := Lib.hid (hi1.new_set (p := ⟨w1.heap.size, 3, none⟩) (Or.inl hz3) _)
      have hz5 : (w4.setCell ⟨w1.heap.size, 3, none⟩ (.slice (some ⟨b1, o1, none⟩) U0.length k1)).heap.size = w4.heap.size := by rw [size_set]
      have x4 := HC5.out.c4
      clear hi1 hb4 hne1 hne2 hk1 hk1'
      go_wp2_with fail
      generalize (w4.setCell ⟨w1.heap.size, 3, none⟩ (.slice (some ⟨b1, o1, none⟩) U0.length k1)) = w5 at *
      have hw5 := HB5.out.size
      clear d3 d5 x4
      refine (HW2.out w5 ((HI2.out.at_below HB5.out).mono (Zone.below_le hw5))).mono ?_
      rintro e w6 ⟨b2, o2, k2, rfl, hi2, hk2, hk2', hb6⟩
      have HF6 := Lib.hid (HF5.out.below hb6 HF5.out.lt)
      have HC6 := Lib.hid (HC5.out.below hb6 HC5.out.lt)
      have HZ6 := Lib.hid (HZ5.out.below hb6 HZ5.out.lt)
      have HB6 := Lib.hid (HB5.out.trans (hb6.mono hw5))
      have HK2 := Lib.hid (And.intro hk2 hk2')
      have hz6 := hb6.size
      have hne1 : w.heap.size ≠ w1.heap.size := by omega
      have hne2 : w.heap.size + 1 ≠ w1.heap.size := by omega
      have d4 := HF6.out.c4
      have d5 := HF6.out.fr 4
      have HF7 := Lib.hid (HF6.out.setR (.slice (some ⟨b2, o2, none⟩) V0.length k2))
      have HC7 := Lib.hid (HC6.out.off (p := ⟨w1.heap.size, 4, none⟩) hne1 (.slice (some ⟨b2, o2, none⟩) V0.length k2))
      have HZ7 := Lib.hid (HZ6.out.off (p := ⟨w1.heap.size, 4, none⟩) hne2 (.slice (some ⟨b2, o2, none⟩) V0.length k2))
      have HB7 := Lib.hid (HB6.out.setCell (p := ⟨w1.heap.size, 4, none⟩) (by show w.heap.size ≤ w1.heap.size; omega) (.slice (some ⟨b2, o2, none⟩) V0.length k2))
      have HA7 : Hid (IntsIn (w6.setCell ⟨w1.heap.size, 4, none⟩ (.slice (some ⟨b2, o2, none⟩) V0.length k2)) (Zone.new w3.heap.size w4.heap.size) (some ⟨b1, o1, none⟩) U0) := Lib.hid ((HA5.out.new_call hb6 (Nat.le_of_eq hz5.symm)).new_set (p := ⟨w1.heap.size, 4, none⟩) (Or.inl hz3) _)
      have HD7 : Hid (IntsIn (w6.setCell ⟨w1.heap.size, 4, none⟩ (.slice (some ⟨b2, o2, none⟩) V0.length k2)) (Zone.new w5.heap.size w6.heap.size) (some ⟨b2, o2, none⟩) V0) := Lib.hid (hi2.new_set (p := ⟨w1.heap.size, 4, none⟩) (Or.inl (by show w1.heap.size < w5.heap.size; omega)) _)
      have hz7 : (w6.setCell ⟨w1.heap.size, 4, none⟩ (.slice (some ⟨b2, o2, none⟩) V0.length k2)).heap.size = w6.heap.size := by rw [size_set]
      obtain ⟨x0, x1, x2, x3, x4, x5, x6⟩ := HC7.out
      clear hi2 hb6 hne1 hne2 hk2 hk2'
      go_wp2_with fail
      generalize (w6.setCell ⟨w1.heap.size, 4, none⟩ (.slice (some ⟨b2, o2, none⟩) V0.length k2)) = w7 at *
      clear d4 d5 x0 x1 x2 x3 x4 x5 x6
      refine (l3Regular_in f t d _ _ _ _ _ _ day _ hin hd0 hd1 hD0 hD1).mono ?_
      rintro e w8 ⟨rfl, hb8⟩
      rw [hu]
      have HF8 := Lib.hid (HF7.out.below hb8 HF7.out.lt)
      have HZ8 := Lib.hid (HZ7.out.below hb8 HZ7.out.lt)
      have HB8 := Lib.hid (HB7.out.trans (hb8.mono HB7.out.size))
      have HA8 := Lib.hid (HA7.out.new_call hb8 (by omega))
      have HD8 := Lib.hid (HD7.out.new_call hb8 (by omega))
      have hz8 := hb8.size
      obtain ⟨c0, c1', c2', c3, c4, c5, c6⟩ := HF8.out
      clear hb8
      go_wp2_with fail
      obtain ⟨w9, hw9⟩ : ∃ w9, w9 = w8 := ⟨_, rfl⟩
      rw [← hw9] at HF8 HZ8 HB8 HA8 HD8 hz8 ⊢
      have HC9 := HF8
      have HZ9 := HZ8
      have HB9 := HB8
      clear c0 c1' c2' c3 c4 c5 c6 hw9
      have hlo : w.heap.size + 1 < w3.heap.size := by omega
      obtain ⟨lo, hloe⟩ : ∃ lo, lo = w3.heap.size := ⟨_, rfl⟩
      have HO9 : Hid (CalO w9 lo w9.heap.size (some ⟨b1, o1, none⟩) (some ⟨b2, o2, none⟩) U0 V0) := Lib.hid (by
        rw [hloe]
        obtain ⟨p1, p2⟩ := ints_blk HA8.out
        obtain ⟨p3, p4⟩ := ints_blk HD8.out
        exact calO_two p1 p3 (fun hx => by have := p2 hx; omega) (fun hx => by have := p4 hx; omega) (fun hx hy => by have := p2 hx; have := p4 hy; omega))
      rw [← hloe] at hlo
      have hUL : U0.length ≤ 1048576 := by exact hlU
      have hVL : V0.length ≤ 1048576 := by exact hlV
      have hG := l3Good_any f t d (some ⟨b1, o1, none⟩) (some ⟨b2, o2, none⟩) k1 k2 U0 V0 w9 (IntsIn.at (HO9.out.to_below (Nat.le_refl _)).u) (IntsIn.at (HO9.out.to_below (Nat.le_refl _)).v) hUL hVL
      have HG := Lib.hid hG
      clear hG
      cases hc2 : calB f t d U0 V0
      · skip
        have HN : Hid (exB f t d us vs day false = false) := Lib.hid (exB_c (by rw [← HU.out, ← HV.out]; exact hc2))
        refine (HG.out.mono ?_)
        rintro e wa ⟨rfl, hba⟩
        rw [hc2]
        have HZa := Lib.hid (HZ9.out.below hba HZ9.out.lt)
        have HCa := Lib.hid (HC9.out.below hba HC9.out.lt)
        have HBa := Lib.hid (HB9.out.trans (hba.mono HB9.out.size))
        have HOa := Lib.hid ((HO9.out.new_call hba (Nat.le_refl _)).wide (Nat.le_refl _) hba.size)
        clear hba
        obtain ⟨c0, c1', c2', c3, c4, c5, c6⟩ := HCa.out
        obtain ⟨z0, z1, z2, z3, z4, z5, z6⟩ := HZa.out
        go_wp2_with fail
        refine bodyPost_ret (v := .tuple #[.agg #[.int .i64 0, .int .i64 0, .int .i64 0, .slice none 0 0, .slice none 0 0], .bool false]) (by simp [results, Try.results33, go_sem, z0, z1, z2, z3, z4]) rfl ?_
        refine retExN HN.out ?_
        repeat' (refine Below.setCell ?_ (by simp) _)
        exact HBa.out
      · skip
        have HN : Hid (exB f t d us vs day false = true) := Lib.hid (exB_y HH.out (by rw [← HU.out, ← HV.out]; exact hc2))
        refine (HG.out.mono ?_)
        rintro e wa ⟨rfl, hba⟩
        rw [hc2]
        have HZa := Lib.hid (HZ9.out.below hba HZ9.out.lt)
        have HCa := Lib.hid (HC9.out.below hba HC9.out.lt)
        have HBa := Lib.hid (HB9.out.trans (hba.mono HB9.out.size))
        have HOa := Lib.hid ((HO9.out.new_call hba (Nat.le_refl _)).wide (Nat.le_refl _) hba.size)
        clear hba
        obtain ⟨c0, c1', c2', c3, c4, c5, c6⟩ := HCa.out
        obtain ⟨z0, z1, z2, z3, z4, z5, z6⟩ := HZa.out
        go_wp2_with fail
        refine bodyPost_ret (v := .tuple #[.agg #[.int .i64 f, .int .i64 t, .int .i64 d, .slice (some ⟨b1, o1, none⟩) U0.length k1, .slice (some ⟨b2, o2, none⟩) V0.length k2], .bool true]) (by simp [results, Try.results33, go_sem, z0, z1, z2, z3, z4]) rfl ?_
        refine retExY HN.out HU.out HV.out (lo := lo) ?_ (by omega) ?_
        · simp only [size_set]
          repeat' (refine CalO.set ?_ (by simpa using hlo) _)
          exact HOa.out
        · repeat' (refine Below.setCell ?_ (by simp) _)
          exact HBa.out
    · skip
      obtain ⟨U0, hU0⟩ : ∃ U0, U0 = woL us day := ⟨_, rfl⟩
      obtain ⟨V0, hV0⟩ : ∃ V0, V0 = woL vs day := ⟨_, rfl⟩
      have HNU : Hid (∀ j, j < U0.length → nth U0 j ≠ day) := Lib.hid (by rw [hU0]; exact wo_ne us day)
      have HNV : Hid (∀ j, j < V0.length → nth V0 j ≠ day) := Lib.hid (by rw [hV0]; exact wo_ne vs day)
      have hlU9 : U0.length ≤ 8 := by rw [hU0]; have := woL_len us day; omega
      have hlU : U0.length ≤ 1048576 := by omega
      have hlV : V0.length ≤ 1048576 := by rw [hV0]; have := woL_len vs day; omega
      obtain ⟨U, hU⟩ : ∃ U, U = putI U0 day := ⟨_, rfl⟩
      have HPU := Lib.hid hU
      have HU : Hid (U = exU d us day true) := Lib.hid (by rw [hU, hU0, put_wo HUu.out]; unfold exU; rw [hu]; rfl)
      clear hU
      have HV : Hid (V0 = exV d vs day true) := Lib.hid (by rw [hV0]; unfold exV; rw [hu]; rfl)
      have HW1 : Hid (∀ w', IntsIn w' (Zone.below w'.heap.size) (some ⟨bu, ou, none⟩) us → Calls Try.prog 100 #[.slice (some ⟨bu, ou, none⟩) us.length ca, .int .i64 day] w' (RetN w'.heap.size U0 w')) := Lib.hid (fun w' h => by rw [hU0]; exact l3Without_any bu ou ca us day w' h hn)
      have HW2 : Hid (∀ w', IntsIn w' (Zone.below w'.heap.size) (some ⟨bv, ov, none⟩) vs → Calls Try.prog 100 #[.slice (some ⟨bv, ov, none⟩) vs.length cr, .int .i64 day] w' (RetN w'.heap.size V0 w')) := Lib.hid (fun w' h => by rw [hV0]; exact l3Without_any bv ov cr vs day w' h hm)
      clear hU0 hV0
      go_enter Try.func33, Try.ntmps33
      go_wp2_with fail
      generalize ((w.alloc (.cells #[.int .i64 f, .int .i64 t, .int .i64 d, .slice (some ⟨bu, ou, none⟩) us.length ca, .slice (some ⟨bv, ov, none⟩) vs.length cr] 24)).alloc (.cells #[.int .i64 0, .int .i64 0, .int .i64 0, .slice none 0 0, .slice none 0 0] 24)) = w0 at *
      have i1 := HI1.out.at_below HB0.out
      have i2 := HI2.out.at_below HB0.out
      have hzz := HB0.out.size
      refine (l3Good_any f t d _ _ _ _ us vs w0 (IntsIn.at (i1.mono (Zone.below_le hzz))) (IntsIn.at (i2.mono (Zone.below_le hzz))) hn hm).mono ?_
      rintro e w1 ⟨rfl, hb1⟩
      rw [hcal]
      have HC1 := Lib.hid (HC0.out.below hb1 HC0.out.lt)
      have HZ1 := Lib.hid (HZ0.out.below hb1 HZ0.out.lt)
      have HB1 := Lib.hid (HB0.out.trans (hb1.mono hzz))
      have hz1 := hb1.size
      clear i1 i2 hb1
      obtain ⟨c0, c1, c2, c3, c4, c5, c6⟩ := HC1.out
      obtain ⟨z0, z1, z2, z3, z4, z5, z6⟩ := HZ1.out
      have HF3 : Hid (FB (w1.alloc (.cells #[.int .i64 f, .int .i64 t, .int .i64 d, .slice (some ⟨bu, ou, none⟩) us.length ca, .slice (some ⟨bv, ov, none⟩) vs.length cr] 24)) w1.heap.size f t d (.slice (some ⟨bu, ou, none⟩) us.length ca) (.slice (some ⟨bv, ov, none⟩) vs.length cr)) := Lib.hid ⟨by go_simp, by go_simp, by go_simp, by go_simp, by go_simp, fun j => by go_simp, by simp⟩
      have hb3 : Below w1.heap.size w1 (w1.alloc (.cells #[.int .i64 f, .int .i64 t, .int .i64 d, .slice (some ⟨bu, ou, none⟩) us.length ca, .slice (some ⟨bv, ov, none⟩) vs.length cr] 24)) := by go_grown
      have HC3 := Lib.hid (HC1.out.below hb3 HC1.out.lt)
      have HZ3 := Lib.hid (HZ1.out.below hb3 HZ1.out.lt)
      have HB3 := Lib.hid (HB1.out.trans (hb3.mono HB1.out.size))
      have hz3 : w1.heap.size < (w1.alloc (.cells #[.int .i64 f, .int .i64 t, .int .i64 d, .slice (some ⟨bu, ou, none⟩) us.length ca, .slice (some ⟨bv, ov, none⟩) vs.length cr] 24)).heap.size := by simp
      clear hb3
      go_wp2_with (go_at_call 69; refine (l1In_any _ _ _ _).mono ?_; rintro e wd ⟨rfl, rfl⟩)
      generalize (w1.alloc (.cells #[.int .i64 f, .int .i64 t, .int .i64 d, .slice (some ⟨bu, ou, none⟩) us.length ca, .slice (some ⟨bv, ov, none⟩) vs.length cr] 24)) = w3 at *
      have hw3 := HB3.out.size
      clear c0 c1 c2 c3 c4 c5 c6 z0 z1 z2 z3 z4 z5 z6
      refine (HW1.out w3 ((HI1.out.at_below HB3.out).mono (Zone.below_le hw3))).mono ?_
      rintro e w4 ⟨b1, o1, k1, rfl, hi1, hk1, hk1', hb4⟩
      have HF4 := Lib.hid (HF3.out.below hb4 HF3.out.lt)
      have HC4 := Lib.hid (HC3.out.below hb4 HC3.out.lt)
      have HZ4 := Lib.hid (HZ3.out.below hb4 HZ3.out.lt)
      have HB4 := Lib.hid (HB3.out.trans (hb4.mono hw3))
      have HK1 := Lib.hid (And.intro hk1 hk1')
      have hz4 := hb4.size
      have hne1 : w.heap.size ≠ w1.heap.size := by omega
      have hne2 : w.heap.size + 1 ≠ w1.heap.size := by omega
      have d3 := HF4.out.c3
      have d5 := HF4.out.fr 3
      have HC5 := Lib.hid (HC4.out.off (p := ⟨w1.heap.size, 3, none⟩) hne1 (.slice (some ⟨b1, o1, none⟩) U0.length k1))
      have HZ5 := Lib.hid (HZ4.out.off (p := ⟨w1.heap.size, 3, none⟩) hne2 (.slice (some ⟨b1, o1, none⟩) U0.length k1))
      have HF5 := Lib.hid (HF4.out.setA (.slice (some ⟨b1, o1, none⟩) U0.length k1))
      have HB5 := Lib.hid (HB4.out.setCell (p := ⟨w1.heap.size, 3, none⟩) (by show w.heap.size ≤ w1.heap.size; omega) (.slice (some ⟨b1, o1, none⟩) U0.length k1))
      have HA5 : Hid (IntsIn (w4.setCell ⟨w1.heap.size, 3, none⟩ (.slice (some ⟨b1, o1, none⟩) U0.length k1)) (Zone.new w3.heap.size w4.heap.size) (some ⟨b1, o1, none⟩) U0) := Lib.hid (hi1.new_set (p := ⟨w1.heap.size, 3, none⟩) (Or.inl hz3) _)
      have hz5 : (w4.setCell ⟨w1.heap.size, 3, none⟩ (.slice (some ⟨b1, o1, none⟩) U0.length k1)).heap.size = w4.heap.size := by rw [size_set]
      have x4 := HC5.out.c4
      clear hi1 hb4 hne1 hne2 hk1 hk1'
      go_wp2_with fail
      generalize (w4.setCell ⟨w1.heap.size, 3, none⟩ (.slice (some ⟨b1, o1, none⟩) U0.length k1)) = w5 at *
      have hw5 := HB5.out.size
      clear d3 d5 x4
      refine (HW2.out w5 ((HI2.out.at_below HB5.out).mono (Zone.below_le hw5))).mono ?_
      rintro e w6 ⟨b2, o2, k2, rfl, hi2, hk2, hk2', hb6⟩
      have HF6 := Lib.hid (HF5.out.below hb6 HF5.out.lt)
      have HC6 := Lib.hid (HC5.out.below hb6 HC5.out.lt)
      have HZ6 := Lib.hid (HZ5.out.below hb6 HZ5.out.lt)
      have HB6 := Lib.hid (HB5.out.trans (hb6.mono hw5))
      have HK2 := Lib.hid (And.intro hk2 hk2')
      have hz6 := hb6.size
      have hne1 : w.heap.size ≠ w1.heap.size := by omega
      have hne2 : w.heap.size + 1 ≠ w1.heap.size := by omega
      have d4 := HF6.out.c4
      have d5 := HF6.out.fr 4
      have HF7 := Lib.hid (HF6.out.setR (.slice (some ⟨b2, o2, none⟩) V0.length k2))
      have HC7 := Lib.hid (HC6.out.off (p := ⟨w1.heap.size, 4, none⟩) hne1 (.slice (some ⟨b2, o2, none⟩) V0.length k2))
      have HZ7 := Lib.hid (HZ6.out.off (p := ⟨w1.heap.size, 4, none⟩) hne2 (.slice (some ⟨b2, o2, none⟩) V0.length k2))
      have HB7 := Lib.hid (HB6.out.setCell (p := ⟨w1.heap.size, 4, none⟩) (by show w.heap.size ≤ w1.heap.size; omega) (.slice (some ⟨b2, o2, none⟩) V0.length k2))
      have HA7 : Hid (IntsIn (w6.setCell ⟨w1.heap.size, 4, none⟩ (.slice (some ⟨b2, o2, none⟩) V0.length k2)) (Zone.new w3.heap.size w4.heap.size) (some ⟨b1, o1, none⟩) U0) := Lib.hid ((HA5.out.new_call hb6 (Nat.le_of_eq hz5.symm)).new_set (p := ⟨w1.heap.size, 4, none⟩) (Or.inl hz3) _)
      have HD7 : Hid (IntsIn (w6.setCell ⟨w1.heap.size, 4, none⟩ (.slice (some ⟨b2, o2, none⟩) V0.length k2)) (Zone.new w5.heap.size w6.heap.size) (some ⟨b2, o2, none⟩) V0) := Lib.hid (hi2.new_set (p := ⟨w1.heap.size, 4, none⟩) (Or.inl (by show w1.heap.size < w5.heap.size; omega)) _)
      have hz7 : (w6.setCell ⟨w1.heap.size, 4, none⟩ (.slice (some ⟨b2, o2, none⟩) V0.length k2)).heap.size = w6.heap.size := by rw [size_set]
      obtain ⟨x0, x1, x2, x3, x4, x5, x6⟩ := HC7.out
      clear hi2 hb6 hne1 hne2 hk2 hk2'
      go_wp2_with fail
      generalize (w6.setCell ⟨w1.heap.size, 4, none⟩ (.slice (some ⟨b2, o2, none⟩) V0.length k2)) = w7 at *
      clear d4 d5 x0 x1 x2 x3 x4 x5 x6
      refine (l3Regular_in f t d _ _ _ _ _ _ day _ hin hd0 hd1 hD0 hD1).mono ?_
      rintro e w8 ⟨rfl, hb8⟩
      rw [hu]
      have HF8 := Lib.hid (HF7.out.below hb8 HF7.out.lt)
      have HZ8 := Lib.hid (HZ7.out.below hb8 HZ7.out.lt)
      have HB8 := Lib.hid (HB7.out.trans (hb8.mono HB7.out.size))
      have HA8 := Lib.hid (HA7.out.new_call hb8 (by omega))
      have HD8 := Lib.hid (HD7.out.new_call hb8 (by omega))
      have hz8 := hb8.size
      obtain ⟨c0, c1', c2', c3, c4, c5, c6⟩ := HF8.out
      clear hb8
      go_wp2_with fail
      have hpc := l1Put_new w3.heap.size b1 o1 k1 U0 day w8 (HA8.out.mono (Zone.new_le (Nat.le_refl _) (by omega))) (by omega) HK1.out.1 HK1.out.2 hlU HNU.out
      rw [← HPU.out] at hpc
      refine hpc.mono ?_
      rintro e wp ⟨b3, o3, k3, rfl, hi3, _, _, hbp⟩
      have HFp := Lib.hid (HF8.out.below hbp HF8.out.lt)
      have HZp := Lib.hid (HZ8.out.below hbp HZ8.out.lt)
      have HBp := Lib.hid (HB8.out.trans (hbp.mono HB8.out.size))
      have HQp := Lib.hid (HD8.out.new_call hbp (by omega))
      have hzp := hbp.size
      have hne2 : w.heap.size + 1 ≠ w1.heap.size := by omega
      have p3 := HFp.out.c3
      have p5 := HFp.out.fr 3
      have HF9 := Lib.hid (HFp.out.setA (.slice (some ⟨b3, o3, none⟩) U.length k3))
      have HZ9 := Lib.hid (HZp.out.off (p := ⟨w1.heap.size, 3, none⟩) hne2 (.slice (some ⟨b3, o3, none⟩) U.length k3))
      have HB9 := Lib.hid (HBp.out.setCell (p := ⟨w1.heap.size, 3, none⟩) (by show w.heap.size ≤ w1.heap.size; omega) (.slice (some ⟨b3, o3, none⟩) U.length k3))
      have HQ9 := Lib.hid (HQp.out.new_set (p := ⟨w1.heap.size, 3, none⟩) (Or.inl (by show w1.heap.size < _; omega)) (.slice (some ⟨b3, o3, none⟩) U.length k3))
      have HI9 := Lib.hid (hi3.new_set (p := ⟨w1.heap.size, 3, none⟩) (Or.inl (by show w1.heap.size < _; omega)) (.slice (some ⟨b3, o3, none⟩) U.length k3))
      have hz9 : (wp.setCell ⟨w1.heap.size, 3, none⟩ (.slice (some ⟨b3, o3, none⟩) U.length k3)).heap.size = wp.heap.size := by rw [size_set]
      clear hpc hi3 hbp hne2 c0 c1' c2' c3 c4 c5 c6
      obtain ⟨y0, y1, y2, y3, y4, y5, y6⟩ := HF9.out
      go_wp2_with fail
      generalize (wp.setCell ⟨w1.heap.size, 3, none⟩ (.slice (some ⟨b3, o3, none⟩) U.length k3)) = w9 at *
      have HC9 := HF9
      clear y0 y1 y2 y3 y4 y5 y6 p3 p5
      have hlo : w.heap.size + 1 < w3.heap.size := by omega
      obtain ⟨lo, hloe⟩ : ∃ lo, lo = w3.heap.size := ⟨_, rfl⟩
      have HO9 : Hid (CalO w9 lo w9.heap.size (some ⟨b3, o3, none⟩) (some ⟨b2, o2, none⟩) U V0) := Lib.hid (by
        rw [hloe]
        obtain ⟨p1, p2⟩ := ints_blk HI9.out
        obtain ⟨p3, p4⟩ := ints_blk HQ9.out
        exact calO_two p1 p3 (fun hx => by have := p2 hx; omega) (fun hx => by have := p4 hx; omega) (fun hx hy => by have := p2 hx; have := p4 hy; omega))
      rw [← hloe] at hlo
      have hUL : U.length ≤ 1048576 := by rw [HPU.out]; have := put_len U0 day; omega
      have hVL : V0.length ≤ 1048576 := by exact hlV
      have hG := l3Good_any f t d (some ⟨b3, o3, none⟩) (some ⟨b2, o2, none⟩) k3 k2 U V0 w9 (IntsIn.at (HO9.out.to_below (Nat.le_refl _)).u) (IntsIn.at (HO9.out.to_below (Nat.le_refl _)).v) hUL hVL
      have HG := Lib.hid hG
      clear hG
      cases hc2 : calB f t d U V0
      · skip
        have HN : Hid (exB f t d us vs day true = false) := Lib.hid (exB_c (by rw [← HU.out, ← HV.out]; exact hc2))
        refine (HG.out.mono ?_)
        rintro e wa ⟨rfl, hba⟩
        rw [hc2]
        have HZa := Lib.hid (HZ9.out.below hba HZ9.out.lt)
        have HCa := Lib.hid (HC9.out.below hba HC9.out.lt)
        have HBa := Lib.hid (HB9.out.trans (hba.mono HB9.out.size))
        have HOa := Lib.hid ((HO9.out.new_call hba (Nat.le_refl _)).wide (Nat.le_refl _) hba.size)
        clear hba
        obtain ⟨c0, c1', c2', c3, c4, c5, c6⟩ := HCa.out
        obtain ⟨z0, z1, z2, z3, z4, z5, z6⟩ := HZa.out
        go_wp2_with fail
        refine bodyPost_ret (v := .tuple #[.agg #[.int .i64 0, .int .i64 0, .int .i64 0, .slice none 0 0, .slice none 0 0], .bool false]) (by simp [results, Try.results33, go_sem, z0, z1, z2, z3, z4]) rfl ?_
        refine retExN HN.out ?_
        repeat' (refine Below.setCell ?_ (by simp) _)
        exact HBa.out
      · skip
        have HN : Hid (exB f t d us vs day true = true) := Lib.hid (exB_y HH.out (by rw [← HU.out, ← HV.out]; exact hc2))
        refine (HG.out.mono ?_)
        rintro e wa ⟨rfl, hba⟩
        rw [hc2]
        have HZa := Lib.hid (HZ9.out.below hba HZ9.out.lt)
        have HCa := Lib.hid (HC9.out.below hba HC9.out.lt)
        have HBa := Lib.hid (HB9.out.trans (hba.mono HB9.out.size))
        have HOa := Lib.hid ((HO9.out.new_call hba (Nat.le_refl _)).wide (Nat.le_refl _) hba.size)
        clear hba
        obtain ⟨c0, c1', c2', c3, c4, c5, c6⟩ := HCa.out
        obtain ⟨z0, z1, z2, z3, z4, z5, z6⟩ := HZa.out
        go_wp2_with fail
        refine bodyPost_ret (v := .tuple #[.agg #[.int .i64 f, .int .i64 t, .int .i64 d, .slice (some ⟨b3, o3, none⟩) U.length k3, .slice (some ⟨b2, o2, none⟩) V0.length k2], .bool true]) (by simp [results, Try.results33, go_sem, z0, z1, z2, z3, z4]) rfl ?_
        refine retExY HN.out HU.out HV.out (lo := lo) ?_ (by omega) ?_
        · simp only [size_set]
          repeat' (refine CalO.set ?_ (by simpa using hlo) _)
          exact HOa.out
        · repeat' (refine Below.setCell ?_ (by simp) _)
          exact HBa.out
  · cases r
    · skip
      obtain ⟨U0, hU0⟩ : ∃ U0, U0 = woL us day := ⟨_, rfl⟩
      obtain ⟨V0, hV0⟩ : ∃ V0, V0 = woL vs day := ⟨_, rfl⟩
      have HNU : Hid (∀ j, j < U0.length → nth U0 j ≠ day) := Lib.hid (by rw [hU0]; exact wo_ne us day)
      have HNV : Hid (∀ j, j < V0.length → nth V0 j ≠ day) := Lib.hid (by rw [hV0]; exact wo_ne vs day)
      have hlU : U0.length ≤ 1048576 := by rw [hU0]; have := woL_len us day; omega
      have hlV9 : V0.length ≤ 8 := by rw [hV0]; have := woL_len vs day; omega
      have hlV : V0.length ≤ 1048576 := by omega
      have HU : Hid (U0 = exU d us day false) := Lib.hid (by rw [hU0]; unfold exU; rw [hu]; rfl)
      obtain ⟨V, hV⟩ : ∃ V, V = putI V0 day := ⟨_, rfl⟩
      have HPV := Lib.hid hV
      have HV : Hid (V = exV d vs day false) := Lib.hid (by rw [hV, hV0, put_wo HUv.out]; unfold exV; rw [hu]; rfl)
      clear hV
      have HW1 : Hid (∀ w', IntsIn w' (Zone.below w'.heap.size) (some ⟨bu, ou, none⟩) us → Calls Try.prog 100 #[.slice (some ⟨bu, ou, none⟩) us.length ca, .int .i64 day] w' (RetN w'.heap.size U0 w')) := Lib.hid (fun w' h => by rw [hU0]; exact l3Without_any bu ou ca us day w' h hn)
      have HW2 : Hid (∀ w', IntsIn w' (Zone.below w'.heap.size) (some ⟨bv, ov, none⟩) vs → Calls Try.prog 100 #[.slice (some ⟨bv, ov, none⟩) vs.length cr, .int .i64 day] w' (RetN w'.heap.size V0 w')) := Lib.hid (fun w' h => by rw [hV0]; exact l3Without_any bv ov cr vs day w' h hm)
      clear hU0 hV0
      go_enter Try.func33, Try.ntmps33
      go_wp2_with fail
      generalize ((w.alloc (.cells #[.int .i64 f, .int .i64 t, .int .i64 d, .slice (some ⟨bu, ou, none⟩) us.length ca, .slice (some ⟨bv, ov, none⟩) vs.length cr] 24)).alloc (.cells #[.int .i64 0, .int .i64 0, .int .i64 0, .slice none 0 0, .slice none 0 0] 24)) = w0 at *
      have i1 := HI1.out.at_below HB0.out
      have i2 := HI2.out.at_below HB0.out
      have hzz := HB0.out.size
      refine (l3Good_any f t d _ _ _ _ us vs w0 (IntsIn.at (i1.mono (Zone.below_le hzz))) (IntsIn.at (i2.mono (Zone.below_le hzz))) hn hm).mono ?_
      rintro e w1 ⟨rfl, hb1⟩
      rw [hcal]
      have HC1 := Lib.hid (HC0.out.below hb1 HC0.out.lt)
      have HZ1 := Lib.hid (HZ0.out.below hb1 HZ0.out.lt)
      have HB1 := Lib.hid (HB0.out.trans (hb1.mono hzz))
      have hz1 := hb1.size
      clear i1 i2 hb1
      obtain ⟨c0, c1, c2, c3, c4, c5, c6⟩ := HC1.out
      obtain ⟨z0, z1, z2, z3, z4, z5, z6⟩ := HZ1.out
      have HF3 : Hid (FB (w1.alloc (.cells #[.int .i64 f, .int .i64 t, .int .i64 d, .slice (some ⟨bu, ou, none⟩) us.length ca, .slice (some ⟨bv, ov, none⟩) vs.length cr] 24)) w1.heap.size f t d (.slice (some ⟨bu, ou, none⟩) us.length ca) (.slice (some ⟨bv, ov, none⟩) vs.length cr)) := Lib.hid ⟨by go_simp, by go_simp, by go_simp, by go_simp, by go_simp, fun j => by go_simp, by simp⟩
      have hb3 : Below w1.heap.size w1 (w1.alloc (.cells #[.int .i64 f, .int .i64 t, .int .i64 d, .slice (some ⟨bu, ou, none⟩) us.length ca, .slice (some ⟨bv, ov, none⟩) vs.length cr] 24)) := by go_grown
      have HC3 := Lib.hid (HC1.out.below hb3 HC1.out.lt)
      have HZ3 := Lib.hid (HZ1.out.below hb3 HZ1.out.lt)
      have HB3 := Lib.hid (HB1.out.trans (hb3.mono HB1.out.size))
      have hz3 : w1.heap.size < (w1.alloc (.cells #[.int .i64 f, .int .i64 t, .int .i64 d, .slice (some ⟨bu, ou, none⟩) us.length ca, .slice (some ⟨bv, ov, none⟩) vs.length cr] 24)).heap.size := by simp
      clear hb3
      go_wp2_with (go_at_call 69; refine (l1In_any _ _ _ _).mono ?_; rintro e wd ⟨rfl, rfl⟩)
      generalize (w1.alloc (.cells #[.int .i64 f, .int .i64 t, .int .i64 d, .slice (some ⟨bu, ou, none⟩) us.length ca, .slice (some ⟨bv, ov, none⟩) vs.length cr] 24)) = w3 at *
      have hw3 := HB3.out.size
      clear c0 c1 c2 c3 c4 c5 c6 z0 z1 z2 z3 z4 z5 z6
      refine (HW1.out w3 ((HI1.out.at_below HB3.out).mono (Zone.below_le hw3))).mono ?_
      rintro e w4 ⟨b1, o1, k1, rfl, hi1, hk1, hk1', hb4⟩
      have HF4 := Lib.hid (HF3.out.below hb4 HF3.out.lt)
      have HC4 := Lib.hid (HC3.out.below hb4 HC3.out.lt)
      have HZ4 := Lib.hid (HZ3.out.below hb4 HZ3.out.lt)
      have HB4 := Lib.hid (HB3.out.trans (hb4.mono hw3))
      have HK1 := Lib.hid (And.intro hk1 hk1')
      have hz4 := hb4.size
      have hne1 : w.heap.size ≠ w1.heap.size := by omega
      have hne2 : w.heap.size + 1 ≠ w1.heap.size := by omega
      have d3 := HF4.out.c3
      have d5 := HF4.out.fr 3
      have HC5 := Lib.hid (HC4.out.off (p := ⟨w1.heap.size, 3, none⟩) hne1 (.slice (some ⟨b1, o1, none⟩) U0.length k1))
      have HZ5 := Lib.hid (HZ4.out.off (p := ⟨w1.heap.size, 3, none⟩) hne2 (.slice (some ⟨b1, o1, none⟩) U0.length k1))
      have HF5 := Lib.hid (HF4.out.setA (.slice (some ⟨b1, o1, none⟩) U0.length k1))
      have HB5 := Lib.hid (HB4.out.setCell (p := ⟨w1.heap.size, 3, none⟩) (by show w.heap.size ≤ w1.heap.size; omega) (.slice (some ⟨b1, o1, none⟩) U0.length k1))
      have HA5 : Hid (IntsIn (w4.setCell ⟨w1.heap.size, 3, none⟩ (.slice (some ⟨b1, o1, none⟩) U0.length k1)) (Zone.new w3.heap.size w4.heap.size) (some ⟨b1, o1, none⟩) U0) := Lib.hid (hi1.new_set (p := ⟨w1.heap.size, 3, none⟩) (Or.inl hz3) _)
      have hz5 : (w4.setCell ⟨w1.heap.size, 3, none⟩ (.slice (some ⟨b1, o1, none⟩) U0.length k1)).heap.size = w4.heap.size := by rw [size_set]
      have x4 := HC5.out.c4
      clear hi1 hb4 hne1 hne2 hk1 hk1'
      go_wp2_with fail
      generalize (w4.setCell ⟨w1.heap.size, 3, none⟩ (.slice (some ⟨b1, o1, none⟩) U0.length k1)) = w5 at *
      have hw5 := HB5.out.size
      clear d3 d5 x4
      refine (HW2.out w5 ((HI2.out.at_below HB5.out).mono (Zone.below_le hw5))).mono ?_
      rintro e w6 ⟨b2, o2, k2, rfl, hi2, hk2, hk2', hb6⟩
      have HF6 := Lib.hid (HF5.out.below hb6 HF5.out.lt)
      have HC6 := Lib.hid (HC5.out.below hb6 HC5.out.lt)
      have HZ6 := Lib.hid (HZ5.out.below hb6 HZ5.out.lt)
      have HB6 := Lib.hid (HB5.out.trans (hb6.mono hw5))
      have HK2 := Lib.hid (And.intro hk2 hk2')
      have hz6 := hb6.size
      have hne1 : w.heap.size ≠ w1.heap.size := by omega
      have hne2 : w.heap.size + 1 ≠ w1.heap.size := by omega
      have d4 := HF6.out.c4
      have d5 := HF6.out.fr 4
      have HF7 := Lib.hid (HF6.out.setR (.slice (some ⟨b2, o2, none⟩) V0.length k2))
      have HC7 := Lib.hid (HC6.out.off (p := ⟨w1.heap.size, 4, none⟩) hne1 (.slice (some ⟨b2, o2, none⟩) V0.length k2))
      have HZ7 := Lib.hid (HZ6.out.off (p := ⟨w1.heap.size, 4, none⟩) hne2 (.slice (some ⟨b2, o2, none⟩) V0.length k2))
      have HB7 := Lib.hid (HB6.out.setCell (p := ⟨w1.heap.size, 4, none⟩) (by show w.heap.size ≤ w1.heap.size; omega) (.slice (some ⟨b2, o2, none⟩) V0.length k2))
      have HA7 : Hid (IntsIn (w6.setCell ⟨w1.heap.size, 4, none⟩ (.slice (some ⟨b2, o2, none⟩) V0.length k2)) (Zone.new w3.heap.size w4.heap.size) (some ⟨b1, o1, none⟩) U0) := Lib.hid ((HA5.out.new_call hb6 (Nat.le_of_eq hz5.symm)).new_set (p := ⟨w1.heap.size, 4, none⟩) (Or.inl hz3) _)
      have HD7 : Hid (IntsIn (w6.setCell ⟨w1.heap.size, 4, none⟩ (.slice (some ⟨b2, o2, none⟩) V0.length k2)) (Zone.new w5.heap.size w6.heap.size) (some ⟨b2, o2, none⟩) V0) := Lib.hid (hi2.new_set (p := ⟨w1.heap.size, 4, none⟩) (Or.inl (by show w1.heap.size < w5.heap.size; omega)) _)
      have hz7 : (w6.setCell ⟨w1.heap.size, 4, none⟩ (.slice (some ⟨b2, o2, none⟩) V0.length k2)).heap.size = w6.heap.size := by rw [size_set]
      obtain ⟨x0, x1, x2, x3, x4, x5, x6⟩ := HC7.out
      clear hi2 hb6 hne1 hne2 hk2 hk2'
      go_wp2_with fail
      generalize (w6.setCell ⟨w1.heap.size, 4, none⟩ (.slice (some ⟨b2, o2, none⟩) V0.length k2)) = w7 at *
      clear d4 d5 x0 x1 x2 x3 x4 x5 x6
      refine (l3Regular_in f t d _ _ _ _ _ _ day _ hin hd0 hd1 hD0 hD1).mono ?_
      rintro e w8 ⟨rfl, hb8⟩
      rw [hu]
      have HF8 := Lib.hid (HF7.out.below hb8 HF7.out.lt)
      have HZ8 := Lib.hid (HZ7.out.below hb8 HZ7.out.lt)
      have HB8 := Lib.hid (HB7.out.trans (hb8.mono HB7.out.size))
      have HA8 := Lib.hid (HA7.out.new_call hb8 (by omega))
      have HD8 := Lib.hid (HD7.out.new_call hb8 (by omega))
      have hz8 := hb8.size
      obtain ⟨c0, c1', c2', c3, c4, c5, c6⟩ := HF8.out
      clear hb8
      go_wp2_with fail
      have hpc := l1Put_new w5.heap.size b2 o2 k2 V0 day w8 (HD8.out.mono (Zone.new_le (Nat.le_refl _) (by omega))) (by omega) HK2.out.1 HK2.out.2 hlV HNV.out
      rw [← HPV.out] at hpc
      refine hpc.mono ?_
      rintro e wp ⟨b3, o3, k3, rfl, hi3, _, _, hbp⟩
      have HFp := Lib.hid (HF8.out.below hbp HF8.out.lt)
      have HZp := Lib.hid (HZ8.out.below hbp HZ8.out.lt)
      have HBp := Lib.hid (HB8.out.trans (hbp.mono HB8.out.size))
      have HQp := Lib.hid (HA8.out.new_call hbp (by omega))
      have hzp := hbp.size
      have hne2 : w.heap.size + 1 ≠ w1.heap.size := by omega
      have p3 := HFp.out.c4
      have p5 := HFp.out.fr 4
      have HF9 := Lib.hid (HFp.out.setR (.slice (some ⟨b3, o3, none⟩) V.length k3))
      have HZ9 := Lib.hid (HZp.out.off (p := ⟨w1.heap.size, 4, none⟩) hne2 (.slice (some ⟨b3, o3, none⟩) V.length k3))
      have HB9 := Lib.hid (HBp.out.setCell (p := ⟨w1.heap.size, 4, none⟩) (by show w.heap.size ≤ w1.heap.size; omega) (.slice (some ⟨b3, o3, none⟩) V.length k3))
      have HQ9 := Lib.hid (HQp.out.new_set (p := ⟨w1.heap.size, 4, none⟩) (Or.inl (by show w1.heap.size < _; omega)) (.slice (some ⟨b3, o3, none⟩) V.length k3))
      have HI9 := Lib.hid (hi3.new_set (p := ⟨w1.heap.size, 4, none⟩) (Or.inl (by show w1.heap.size < _; omega)) (.slice (some ⟨b3, o3, none⟩) V.length k3))
      have hz9 : (wp.setCell ⟨w1.heap.size, 4, none⟩ (.slice (some ⟨b3, o3, none⟩) V.length k3)).heap.size = wp.heap.size := by rw [size_set]
      clear hpc hi3 hbp hne2 c0 c1' c2' c3 c4 c5 c6
      obtain ⟨y0, y1, y2, y3, y4, y5, y6⟩ := HF9.out
      go_wp2_with fail
      generalize (wp.setCell ⟨w1.heap.size, 4, none⟩ (.slice (some ⟨b3, o3, none⟩) V.length k3)) = w9 at *
      have HC9 := HF9
      clear y0 y1 y2 y3 y4 y5 y6 p3 p5
      have hlo : w.heap.size + 1 < w3.heap.size := by omega
      obtain ⟨lo, hloe⟩ : ∃ lo, lo = w3.heap.size := ⟨_, rfl⟩
      have HO9 : Hid (CalO w9 lo w9.heap.size (some ⟨b1, o1, none⟩) (some ⟨b3, o3, none⟩) U0 V) := Lib.hid (by
        rw [hloe]
        obtain ⟨p1, p2⟩ := ints_blk HQ9.out
        obtain ⟨p3, p4⟩ := ints_blk HI9.out
        exact calO_two p1 p3 (fun hx => by have := p2 hx; omega) (fun hx => by have := p4 hx; omega) (fun hx hy => by have := p2 hx; have := p4 hy; omega))
      rw [← hloe] at hlo
      have hUL : U0.length ≤ 1048576 := by exact hlU
      have hVL : V.length ≤ 1048576 := by rw [HPV.out]; have := put_len V0 day; omega
      have hG := l3Good_any f t d (some ⟨b1, o1, none⟩) (some ⟨b3, o3, none⟩) k1 k3 U0 V w9 (IntsIn.at (HO9.out.to_below (Nat.le_refl _)).u) (IntsIn.at (HO9.out.to_below (Nat.le_refl _)).v) hUL hVL
      have HG := Lib.hid hG
      clear hG
      cases hc2 : calB f t d U0 V
      · skip
        have HN : Hid (exB f t d us vs day false = false) := Lib.hid (exB_c (by rw [← HU.out, ← HV.out]; exact hc2))
        refine (HG.out.mono ?_)
        rintro e wa ⟨rfl, hba⟩
        rw [hc2]
        have HZa := Lib.hid (HZ9.out.below hba HZ9.out.lt)
        have HCa := Lib.hid (HC9.out.below hba HC9.out.lt)
        have HBa := Lib.hid (HB9.out.trans (hba.mono HB9.out.size))
        have HOa := Lib.hid ((HO9.out.new_call hba (Nat.le_refl _)).wide (Nat.le_refl _) hba.size)
        clear hba
        obtain ⟨c0, c1', c2', c3, c4, c5, c6⟩ := HCa.out
        obtain ⟨z0, z1, z2, z3, z4, z5, z6⟩ := HZa.out
        go_wp2_with fail
        refine bodyPost_ret (v := .tuple #[.agg #[.int .i64 0, .int .i64 0, .int .i64 0, .slice none 0 0, .slice none 0 0], .bool false]) (by simp [results, Try.results33, go_sem, z0, z1, z2, z3, z4]) rfl ?_
        refine retExN HN.out ?_
        repeat' (refine Below.setCell ?_ (by simp) _)
        exact HBa.out
      · skip
        have HN : Hid (exB f t d us vs day false = true) := Lib.hid (exB_y HH.out (by rw [← HU.out, ← HV.out]; exact hc2))
        refine (HG.out.mono ?_)
        rintro e wa ⟨rfl, hba⟩
        rw [hc2]
        have HZa := Lib.hid (HZ9.out.below hba HZ9.out.lt)
        have HCa := Lib.hid (HC9.out.below hba HC9.out.lt)
        have HBa := Lib.hid (HB9.out.trans (hba.mono HB9.out.size))
        have HOa := Lib.hid ((HO9.out.new_call hba (Nat.le_refl _)).wide (Nat.le_refl _) hba.size)
        clear hba
        obtain ⟨c0, c1', c2', c3, c4, c5, c6⟩ := HCa.out
        obtain ⟨z0, z1, z2, z3, z4, z5, z6⟩ := HZa.out
        go_wp2_with fail
        refine bodyPost_ret (v := .tuple #[.agg #[.int .i64 f, .int .i64 t, .int .i64 d, .slice (some ⟨b1, o1, none⟩) U0.length k1, .slice (some ⟨b3, o3, none⟩) V.length k3], .bool true]) (by simp [results, Try.results33, go_sem, z0, z1, z2, z3, z4]) rfl ?_
        refine retExY HN.out HU.out HV.out (lo := lo) ?_ (by omega) ?_
        · simp only [size_set]
          repeat' (refine CalO.set ?_ (by simpa using hlo) _)
          exact HOa.out
        · repeat' (refine Below.setCell ?_ (by simp) _)
          exact HBa.out
    · skip
      obtain ⟨U0, hU0⟩ : ∃ U0, U0 = woL us day := ⟨_, rfl⟩
      obtain ⟨V0, hV0⟩ : ∃ V0, V0 = woL vs day := ⟨_, rfl⟩
      have HNU : Hid (∀ j, j < U0.length → nth U0 j ≠ day) := Lib.hid (by rw [hU0]; exact wo_ne us day)
      have HNV : Hid (∀ j, j < V0.length → nth V0 j ≠ day) := Lib.hid (by rw [hV0]; exact wo_ne vs day)
      have hlU : U0.length ≤ 1048576 := by rw [hU0]; have := woL_len us day; omega
      have hlV : V0.length ≤ 1048576 := by rw [hV0]; have := woL_len vs day; omega
      have HU : Hid (U0 = exU d us day true) := Lib.hid (by rw [hU0]; unfold exU; rw [hu]; rfl)
      have HV : Hid (V0 = exV d vs day true) := Lib.hid (by rw [hV0]; unfold exV; rw [hu]; rfl)
      have HW1 : Hid (∀ w', IntsIn w' (Zone.below w'.heap.size) (some ⟨bu, ou, none⟩) us → Calls Try.prog 100 #[.slice (some ⟨bu, ou, none⟩) us.length ca, .int .i64 day] w' (RetN w'.heap.size U0 w')) := Lib.hid (fun w' h => by rw [hU0]; exact l3Without_any bu ou ca us day w' h hn)
      have HW2 : Hid (∀ w', IntsIn w' (Zone.below w'.heap.size) (some ⟨bv, ov, none⟩) vs → Calls Try.prog 100 #[.slice (some ⟨bv, ov, none⟩) vs.length cr, .int .i64 day] w' (RetN w'.heap.size V0 w')) := Lib.hid (fun w' h => by rw [hV0]; exact l3Without_any bv ov cr vs day w' h hm)
      clear hU0 hV0
      go_enter Try.func33, Try.ntmps33
      go_wp2_with fail
      generalize ((w.alloc (.cells #[.int .i64 f, .int .i64 t, .int .i64 d, .slice (some ⟨bu, ou, none⟩) us.length ca, .slice (some ⟨bv, ov, none⟩) vs.length cr] 24)).alloc (.cells #[.int .i64 0, .int .i64 0, .int .i64 0, .slice none 0 0, .slice none 0 0] 24)) = w0 at *
      have i1 := HI1.out.at_below HB0.out
      have i2 := HI2.out.at_below HB0.out
      have hzz := HB0.out.size
      refine (l3Good_any f t d _ _ _ _ us vs w0 (IntsIn.at (i1.mono (Zone.below_le hzz))) (IntsIn.at (i2.mono (Zone.below_le hzz))) hn hm).mono ?_
      rintro e w1 ⟨rfl, hb1⟩
      rw [hcal]
      have HC1 := Lib.hid (HC0.out.below hb1 HC0.out.lt)
      have HZ1 := Lib.hid (HZ0.out.below hb1 HZ0.out.lt)
      have HB1 := Lib.hid (HB0.out.trans (hb1.mono hzz))
      have hz1 := hb1.size
      clear i1 i2 hb1
      obtain ⟨c0, c1, c2, c3, c4, c5, c6⟩ := HC1.out
      obtain ⟨z0, z1, z2, z3, z4, z5, z6⟩ := HZ1.out
      have HF3 : Hid (FB (w1.alloc (.cells #[.int .i64 f, .int .i64 t, .int .i64 d, .slice (some ⟨bu, ou, none⟩) us.length ca, .slice (some ⟨bv, ov, none⟩) vs.length cr] 24)) w1.heap.size f t d (.slice (some ⟨bu, ou, none⟩) us.length ca) (.slice (some ⟨bv, ov, none⟩) vs.length cr)) := Lib.hid ⟨by go_simp, by go_simp, by go_simp, by go_simp, by go_simp, fun j => by go_simp, by simp⟩
      have hb3 : Below w1.heap.size w1 (w1.alloc (.cells #[.int .i64 f, .int .i64 t, .int .i64 d, .slice (some ⟨bu, ou, none⟩) us.length ca, .slice (some ⟨bv, ov, none⟩) vs.length cr] 24)) := by go_grown
      have HC3 := Lib.hid (HC1.out.below hb3 HC1.out.lt)
      have HZ3 := Lib.hid (HZ1.out.below hb3 HZ1.out.lt)
      have HB3 := Lib.hid (HB1.out.trans (hb3.mono HB1.out.size))
      have hz3 : w1.heap.size < (w1.alloc (.cells #[.int .i64 f, .int .i64 t, .int .i64 d, .slice (some ⟨bu, ou, none⟩) us.length ca, .slice (some ⟨bv, ov, none⟩) vs.length cr] 24)).heap.size := by simp
      clear hb3
      go_wp2_with (go_at_call 69; refine (l1In_any _ _ _ _).mono ?_; rintro e wd ⟨rfl, rfl⟩)
      generalize (w1.alloc (.cells #[.int .i64 f, .int .i64 t, .int .i64 d, .slice (some ⟨bu, ou, none⟩) us.length ca, .slice (some ⟨bv, ov, none⟩) vs.length cr] 24)) = w3 at *
      have hw3 := HB3.out.size
      clear c0 c1 c2 c3 c4 c5 c6 z0 z1 z2 z3 z4 z5 z6
      refine (HW1.out w3 ((HI1.out.at_below HB3.out).mono (Zone.below_le hw3))).mono ?_
      rintro e w4 ⟨b1, o1, k1, rfl, hi1, hk1, hk1', hb4⟩
      have HF4 := Lib.hid (HF3.out.below hb4 HF3.out.lt)
      have HC4 := Lib.hid (HC3.out.below hb4 HC3.out.lt)
      have HZ4 := Lib.hid (HZ3.out.below hb4 HZ3.out.lt)
      have HB4 := Lib.hid (HB3.out.trans (hb4.mono hw3))
      have HK1 := Lib.hid (And.intro hk1 hk1')
      have hz4 := hb4.size
      have hne1 : w.heap.size ≠ w1.heap.size := by omega
      have hne2 : w.heap.size + 1 ≠ w1.heap.size := by omega
      have d3 := HF4.out.c3
      have d5 := HF4.out.fr 3
      have HC5 := Lib.hid (HC4.out.off (p := ⟨w1.heap.size, 3, none⟩) hne1 (.slice (some ⟨b1, o1, none⟩) U0.length k1))
      have HZ5 := Lib.hid (HZ4.out.off (p := ⟨w1.heap.size, 3, none⟩) hne2 (.slice (some ⟨b1, o1, none⟩) U0.length k1))
      have HF5 := Lib.hid (HF4.out.setA (.slice (some ⟨b1, o1, none⟩) U0.length k1))
      have HB5 := Lib.hid (HB4.out.setCell (p := ⟨w1.heap.size, 3, none⟩) (by show w.heap.size ≤ w1.heap.size; omega) (.slice (some ⟨b1, o1, none⟩) U0.length k1))
      have HA5 : Hid (IntsIn (w4.setCell ⟨w1.heap.size, 3, none⟩ (.slice (some ⟨b1, o1, none⟩) U0.length k1)) (Zone.new w3.heap.size w4.heap.size) (some ⟨b1, o1, none⟩) U0) := Lib.hid (hi1.new_set (p := ⟨w1.heap.size, 3, none⟩) (Or.inl hz3) _)
      have hz5 : (w4.setCell ⟨w1.heap.size, 3, none⟩ (.slice (some ⟨b1, o1, none⟩) U0.length k1)).heap.size = w4.heap.size := by rw [size_set]
      have x4 := HC5.out.c4
      clear hi1 hb4 hne1 hne2 hk1 hk1'
      go_wp2_with fail
      generalize (w4.setCell ⟨w1.heap.size, 3, none⟩ (.slice (some ⟨b1, o1, none⟩) U0.length k1)) = w5 at *
      have hw5 := HB5.out.size
      clear d3 d5 x4
      refine (HW2.out w5 ((HI2.out.at_below HB5.out).mono (Zone.below_le hw5))).mono ?_
      rintro e w6 ⟨b2, o2, k2, rfl, hi2, hk2, hk2', hb6⟩
      have HF6 := Lib.hid (HF5.out.below hb6 HF5.out.lt)
      have HC6 := Lib.hid (HC5.out.below hb6 HC5.out.lt)
      have HZ6 := Lib.hid (HZ5.out.below hb6 HZ5.out.lt)
      have HB6 := Lib.hid (HB5.out.trans (hb6.mono hw5))
      have HK2 := Lib.hid (And.intro hk2 hk2')
      have hz6 := hb6.size
      have hne1 : w.heap.size ≠ w1.heap.size := by omega
      have hne2 : w.heap.size + 1 ≠ w1.heap.size := by omega
      have d4 := HF6.out.c4
      have d5 := HF6.out.fr 4
      have HF7 := Lib.hid (HF6.out.setR (.slice (some ⟨b2, o2, none⟩) V0.length k2))
      have HC7 := Lib.hid (HC6.out.off (p := ⟨w1.heap.size, 4, none⟩) hne1 (.slice (some ⟨b2, o2, none⟩) V0.length k2))
      have HZ7 := Lib.hid (HZ6.out.off (p := ⟨w1.heap.size, 4, none⟩) hne2 (.slice (some ⟨b2, o2, none⟩) V0.length k2))
      have HB7 := Lib.hid (HB6.out.setCell (p := ⟨w1.heap.size, 4, none⟩) (by show w.heap.size ≤ w1.heap.size; omega) (.slice (some ⟨b2, o2, none⟩) V0.length k2))
      have HA7 : Hid (IntsIn (w6.setCell ⟨w1.heap.size, 4, none⟩ (.slice (some ⟨b2, o2, none⟩) V0.length k2)) (Zone.new w3.heap.size w4.heap.size) (some ⟨b1, o1, none⟩) U0) := Lib.hid ((HA5.out.new_call hb6 (Nat.le_of_eq hz5.symm)).new_set (p := ⟨w1.heap.size, 4, none⟩) (Or.inl hz3) _)
      have HD7 : Hid (IntsIn (w6.setCell ⟨w1.heap.size, 4, none⟩ (.slice (some ⟨b2, o2, none⟩) V0.length k2)) (Zone.new w5.heap.size w6.heap.size) (some ⟨b2, o2, none⟩) V0) := Lib.hid (hi2.new_set (p := ⟨w1.heap.size, 4, none⟩) (Or.inl (by show w1.heap.size < w5.heap.size; omega)) _)
      have hz7 : (w6.setCell ⟨w1.heap.size, 4, none⟩ (.slice (some ⟨b2, o2, none⟩) V0.length k2)).heap.size = w6.heap.size := by rw [size_set]
      obtain ⟨x0, x1, x2, x3, x4, x5, x6⟩ := HC7.out
      clear hi2 hb6 hne1 hne2 hk2 hk2'
      go_wp2_with fail
      generalize (w6.setCell ⟨w1.heap.size, 4, none⟩ (.slice (some ⟨b2, o2, none⟩) V0.length k2)) = w7 at *
      clear d4 d5 x0 x1 x2 x3 x4 x5 x6
      refine (l3Regular_in f t d _ _ _ _ _ _ day _ hin hd0 hd1 hD0 hD1).mono ?_
      rintro e w8 ⟨rfl, hb8⟩
      rw [hu]
      have HF8 := Lib.hid (HF7.out.below hb8 HF7.out.lt)
      have HZ8 := Lib.hid (HZ7.out.below hb8 HZ7.out.lt)
      have HB8 := Lib.hid (HB7.out.trans (hb8.mono HB7.out.size))
      have HA8 := Lib.hid (HA7.out.new_call hb8 (by omega))
      have HD8 := Lib.hid (HD7.out.new_call hb8 (by omega))
      have hz8 := hb8.size
      obtain ⟨c0, c1', c2', c3, c4, c5, c6⟩ := HF8.out
      clear hb8
      go_wp2_with fail
      obtain ⟨w9, hw9⟩ : ∃ w9, w9 = w8 := ⟨_, rfl⟩
      rw [← hw9] at HF8 HZ8 HB8 HA8 HD8 hz8 ⊢
      have HC9 := HF8
      have HZ9 := HZ8
      have HB9 := HB8
      clear c0 c1' c2' c3 c4 c5 c6 hw9
      have hlo : w.heap.size + 1 < w3.heap.size := by omega
      obtain ⟨lo, hloe⟩ : ∃ lo, lo = w3.heap.size := ⟨_, rfl⟩
      have HO9 : Hid (CalO w9 lo w9.heap.size (some ⟨b1, o1, none⟩) (some ⟨b2, o2, none⟩) U0 V0) := Lib.hid (by
        rw [hloe]
        obtain ⟨p1, p2⟩ := ints_blk HA8.out
        obtain ⟨p3, p4⟩ := ints_blk HD8.out
        exact calO_two p1 p3 (fun hx => by have := p2 hx; omega) (fun hx => by have := p4 hx; omega) (fun hx hy => by have := p2 hx; have := p4 hy; omega))
      rw [← hloe] at hlo
      have hUL : U0.length ≤ 1048576 := by exact hlU
      have hVL : V0.length ≤ 1048576 := by exact hlV
      have hG := l3Good_any f t d (some ⟨b1, o1, none⟩) (some ⟨b2, o2, none⟩) k1 k2 U0 V0 w9 (IntsIn.at (HO9.out.to_below (Nat.le_refl _)).u) (IntsIn.at (HO9.out.to_below (Nat.le_refl _)).v) hUL hVL
      have HG := Lib.hid hG
      clear hG
      cases hc2 : calB f t d U0 V0
      · skip
        have HN : Hid (exB f t d us vs day true = false) := Lib.hid (exB_c (by rw [← HU.out, ← HV.out]; exact hc2))
        refine (HG.out.mono ?_)
        rintro e wa ⟨rfl, hba⟩
        rw [hc2]
        have HZa := Lib.hid (HZ9.out.below hba HZ9.out.lt)
        have HCa := Lib.hid (HC9.out.below hba HC9.out.lt)
        have HBa := Lib.hid (HB9.out.trans (hba.mono HB9.out.size))
        have HOa := Lib.hid ((HO9.out.new_call hba (Nat.le_refl _)).wide (Nat.le_refl _) hba.size)
        clear hba
        obtain ⟨c0, c1', c2', c3, c4, c5, c6⟩ := HCa.out
        obtain ⟨z0, z1, z2, z3, z4, z5, z6⟩ := HZa.out
        go_wp2_with fail
        refine bodyPost_ret (v := .tuple #[.agg #[.int .i64 0, .int .i64 0, .int .i64 0, .slice none 0 0, .slice none 0 0], .bool false]) (by simp [results, Try.results33, go_sem, z0, z1, z2, z3, z4]) rfl ?_
        refine retExN HN.out ?_
        repeat' (refine Below.setCell ?_ (by simp) _)
        exact HBa.out
      · skip
        have HN : Hid (exB f t d us vs day true = true) := Lib.hid (exB_y HH.out (by rw [← HU.out, ← HV.out]; exact hc2))
        refine (HG.out.mono ?_)
        rintro e wa ⟨rfl, hba⟩
        rw [hc2]
        have HZa := Lib.hid (HZ9.out.below hba HZ9.out.lt)
        have HCa := Lib.hid (HC9.out.below hba HC9.out.lt)
        have HBa := Lib.hid (HB9.out.trans (hba.mono HB9.out.size))
        have HOa := Lib.hid ((HO9.out.new_call hba (Nat.le_refl _)).wide (Nat.le_refl _) hba.size)
        clear hba
        obtain ⟨c0, c1', c2', c3, c4, c5, c6⟩ := HCa.out
        obtain ⟨z0, z1, z2, z3, z4, z5, z6⟩ := HZa.out
        go_wp2_with fail
        refine bodyPost_ret (v := .tuple #[.agg #[.int .i64 f, .int .i64 t, .int .i64 d, .slice (some ⟨b1, o1, none⟩) U0.length k1, .slice (some ⟨b2, o2, none⟩) V0.length k2], .bool true]) (by simp [results, Try.results33, go_sem, z0, z1, z2, z3, z4]) rfl ?_
        refine retExY HN.out HU.out HV.out (lo := lo) ?_ (by omega) ?_
        · simp only [size_set]
          repeat' (refine CalO.set ?_ (by simpa using hlo) _)
          exact HOa.out
        · repeat' (refine Below.setCell ?_ (by simp) _)
          exact HBa.out
end Go.Proofs.Ytambgommeannnaa
