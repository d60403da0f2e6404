/- TripText: the program. -/
import Derived.Test.YtgakmmjbdejmdaaTtx
namespace Go.Proofs.Ytgakmmjbdejmdaa
open Go.ChangeShapes Go.WideShapes Go.ChangeAt Go.RowKit Go.PlainAid
set_option linter.unusedVariables false
set_option linter.unusedSimpArgs false

theorem lineOfT_any (B0 : Nat) (x : TTD) (A L T : Option Addr) (ca cl ct : Nat) (i : Nat) (w : World) (hL : LinesIn w (Zone.below B0) L x.net.lines) (hB : B0 ≤ w.heap.size) (hi : Ti x i) (hm : x.net.lines.length ≤ 1048576) :
    Calls Try.prog 36 #[.agg #[.slice A x.net.stops.length ca, .slice L x.net.lines.length cl, .slice T x.trips.length ct], .agg #[.int .i64 (nth3 x.trips i).a, .int .i64 (nth3 x.trips i).b, .int .i64 (nth3 x.trips i).c]] w (RetLineB B0 (lnI x i) w) :=
  lineOf_any B0 x A L T ca cl ct (nth3 x.trips i) w hL hB hi.b0 hi.b1 hm
theorem stopTimesT_any (x : TTD) (A L T : Option Addr) (ca cl ct : Nat) (i : Nat) (w : World) (hA : StrsIn w (Zone.below w.heap.size) A x.net.stops) (hL : LinesIn w (Zone.below w.heap.size) L x.net.lines) (hT : I3sIn w (Zone.below w.heap.size) T x.trips) (hi : Ti x i) (hm : x.net.lines.length ≤ 1048576) :
    Calls Try.prog 37 #[.agg #[.slice A x.net.stops.length ca, .slice L x.net.lines.length cl, .slice T x.trips.length ct], .agg #[.int .i64 (nth3 x.trips i).a, .int .i64 (nth3 x.trips i).b, .int .i64 (nth3 x.trips i).c]] w (RetI1 (pickI (atI x i) yesN (lnI x i).stops.length) w) := by
  have h := hi.hd.1
  unfold LineHd at h
  rw [← h.2.2]
  exact stopTimes_any x A L T ca cl ct (nth3 x.trips i) w hA hL hT hi.net hi.b0 hi.b1 hi.c0 hi.c1 hm

set_option maxRecDepth 100000 in
set_option maxHeartbeats 4000000 in
theorem implTripText_any (x : TTD) (A L T : Option Addr) (ca cl ct : Nat) (id : Int) (w : World) (hA : StrsIn w (Zone.below w.heap.size) A x.net.stops) (hL : LinesIn w (Zone.below w.heap.size) L x.net.lines) (hT : I3sIn w (Zone.below w.heap.size) T x.trips) (hx : FitsT x) :
    Calls Try.prog 14 #[.agg #[.slice A x.net.stops.length ca, .slice L x.net.lines.length cl, .slice T x.trips.length ct], .int .i64 id] w fun e w' => e = .returned (.tuple #[.string (ttT x id), .bool (stB x id)]) ∧ Below w.heap.size w w' := by
  have H0 : Hid (TtBox w (w.alloc (.cells #[.slice A x.net.stops.length ca, .slice L x.net.lines.length cl, .slice T x.trips.length ct] 42)) w.heap.size x A ca L cl T ct) := Lib.hid (TtBox.box hA hL hT)
  have hn := hx.trips
  have hm := hx.net.lines
  clear hA hL hT
  cases g : ttB x
  · have hcd : stB x id = false := by unfold stB numB; rw [g]; rfl
    have HN := Lib.hid (And.intro (ttT_no hcd) hcd)
    clear hcd
    go_enter Try.func14, Try.ntmps14
    go_wp2_with fail
    refine (isValidTimetable_any x _ _ _ _ _ _  _ H0.out.stops H0.out.lines H0.out.trips hx).mono ?_
    rintro e w1 ⟨rfl, hb1⟩
    have H1 := Lib.hid (H0.out.call hb1)
    clear hb1
    (try clear c0 c1 c2)
    obtain ⟨c0, c1, c2⟩ := H1.out.cells
    go_wp2_with fail
    go_ret2
    rw [HN.out.1, HN.out.2]
    exact ⟨rfl, H1.out.bel⟩
  by_cases h0 : idI x.trips id < 0
  · have hcd : stB x id = false := by unfold stB; exact (num_no (.inr h0)).2
    have HN := Lib.hid (And.intro (ttT_no hcd) hcd)
    clear hcd
    go_enter Try.func14, Try.ntmps14
    go_wp2_with fail
    refine (isValidTimetable_any x _ _ _ _ _ _  _ H0.out.stops H0.out.lines H0.out.trips hx).mono ?_
    rintro e w1 ⟨rfl, hb1⟩
    have H1 := Lib.hid (H0.out.call hb1)
    clear hb1
    (try clear c0 c1 c2)
    obtain ⟨c0, c1, c2⟩ := H1.out.cells
    go_wp2_with fail
    refine (tripIndex_any x _ _ _ _ _ _ id _ H1.out.trips hn).mono ?_
    rintro e w2 ⟨rfl, hb2⟩
    have H2 := Lib.hid (H1.out.call hb2)
    clear hb2
    (try clear c0 c1 c2)
    obtain ⟨c0, c1, c2⟩ := H2.out.cells
    go_wp2_with fail
    go_ret2
    rw [HN.out.1, HN.out.2]
    exact ⟨rfl, H2.out.bel⟩
  obtain ⟨i, hi⟩ : ∃ i : Nat, idI x.trips id = i := ⟨(idI x.trips id).toNat, by omega⟩
  have hil : i < x.trips.length := by have := (idI_bd x.trips id).2; omega
  have HTi := Lib.hid (ti_of g hil)
  have HX := Lib.hid (ttX_of g hil)
  have hcd : stB x id = true := by unfold stB; rw [g]; exact (num_yes (by omega)).2
  have HY := Lib.hid (And.intro (ttT_yes hcd) hcd)
  rw [hi, Int.toNat_natCast] at HY
  have HI := Lib.hid hi
  have hi0 : ¬ ((i : Int) < 0) := by omega
  have hnm := HX.out.name
  have z1 : (⟨#[58]⟩ : ByteArray).size = 1 := rfl
  have z2 : (⟨#[32]⟩ : ByteArray).size = 1 := rfl
  have z3 := clk_size
  clear hcd hi h0
  go_enter Try.func14, Try.ntmps14
  go_wp2_with fail
  refine (isValidTimetable_any x _ _ _ _ _ _  _ H0.out.stops H0.out.lines H0.out.trips hx).mono ?_
  rintro e w1 ⟨rfl, hb1⟩
  have H1 := Lib.hid (H0.out.call hb1)
  clear hb1
  (try clear c0 c1 c2)
  obtain ⟨c0, c1, c2⟩ := H1.out.cells
  go_wp2_with fail
  refine (tripIndex_any x _ _ _ _ _ _ id _ H1.out.trips hn).mono ?_
  rintro e w2 ⟨rfl, hb2⟩
  have H2 := Lib.hid (H1.out.call hb2)
  clear hb2
  (try clear c0 c1 c2)
  obtain ⟨c0, c1, c2⟩ := H2.out.cells
  rw [HI.out]
  have hik : (i : Int) < x.trips.length := by omega
  obtain ⟨b, o, rfl, hbl, d0, d1, d2⟩ := I3sIn.at H2.out.trips hil
  have hz2 : w.heap.size < w2.heap.size := H2.out.lt
  have H3 : Hid (TtBox w (w2.alloc (.cells #[.int .i64 (nth3 x.trips i).a, .int .i64 (nth3 x.trips i).b, .int .i64 (nth3 x.trips i).c] 65)) w.heap.size x A ca L cl (some ⟨b, o, none⟩) ct) := Lib.hid (H2.out.call (by go_grown))
  have HR : Hid (Tr3 (w2.alloc (.cells #[.int .i64 (nth3 x.trips i).a, .int .i64 (nth3 x.trips i).b, .int .i64 (nth3 x.trips i).c] 65)) w2.heap.size (nth3 x.trips i)) := Lib.hid ⟨by go_simp, by go_simp, by go_simp⟩
  have hz3 : w2.heap.size < (w2.alloc (.cells #[.int .i64 (nth3 x.trips i).a, .int .i64 (nth3 x.trips i).b, .int .i64 (nth3 x.trips i).c] 65)).heap.size := by simp
  go_wp2_with fail
  generalize (w2.alloc (.cells #[.int .i64 (nth3 x.trips i).a, .int .i64 (nth3 x.trips i).b, .int .i64 (nth3 x.trips i).c] 65)) = w3 at *
  refine (lineOfT_any w.heap.size x _ _ _ _ _ _ i _ H3.out.lines0 (by omega) HTi.out hm).mono ?_
  rintro e w4 ⟨S1, cs1, R1, cr1, rfl, _, _, _, _, hb4⟩
  have H4 := Lib.hid (H3.out.call hb4)
  have HR4 := Lib.hid (HR.out.below hb4 hz3)
  have hz4 : w2.heap.size < w4.heap.size := Nat.lt_of_lt_of_le hz3 hb4.size
  have hfd1 : ∀ w', (Instr.field 57 (.agg #[.string (lnI x i).name, .slice S1 (lnI x i).stops.length cs1, .slice R1 (lnI x i).runs.length cr1]) 0).run Try.prog w' = .ok (.string (lnI x i).name) w' := fun _ => by kernel_rfl
  clear hb4 c0 c1 c2 d0 d1 d2
  obtain ⟨c0, c1, c2⟩ := H4.out.cells
  obtain ⟨d0, d1, d2⟩ := HR4.out
  go_wp2_with fail
  clear hfd1
  refine (stopTimesT_any x _ _ _ _ _ _ i _ H4.out.stops H4.out.lines H4.out.trips HTi.out hm).mono ?_
  rintro e w5 ⟨A5, c5, rfl, hi5, hb5⟩
  have H5 := Lib.hid (H4.out.call hb5)
  have HR5 := Lib.hid (HR4.out.below hb5 hz4)
  have hz5 : w2.heap.size < w5.heap.size := Nat.lt_of_lt_of_le hz4 hb5.size
  have HA5 := Lib.hid (hi5.to_below (Nat.le_refl _))
  clear hb5 hi5 c0 c1 c2 d0 d1 d2
  obtain ⟨c0, c1, c2⟩ := H5.out.cells
  obtain ⟨d0, d1, d2⟩ := HR5.out
  go_wp2_with fail
  refine (lineOfT_any w.heap.size x _ _ _ _ _ _ i _ H5.out.lines0 (by omega) HTi.out hm).mono ?_
  rintro e w6 ⟨S2, cs2, R2, cr2, rfl, hs6, _, _, _, hb6⟩
  have H6 := Lib.hid (H5.out.call hb6)
  have HA6 := Lib.hid (HA5.out.call hb6)
  have HS6 := Lib.hid hs6
  have hfd2 : ∀ w', (Instr.field 57 (.agg #[.string (lnI x i).name, .slice S2 (lnI x i).stops.length cs2, .slice R2 (lnI x i).runs.length cr2]) 1).run Try.prog w' = .ok (.slice S2 (lnI x i).stops.length cs2) w' := fun _ => by kernel_rfl
  clear hb6 hs6 c0 c1 c2 d0 d1 d2
  go_wp2_with fail
  clear hfd2
  have HE : Hid ((lnI x i).name ++ (⟨#[58]⟩ : ByteArray) = ttS x i 0) := Lib.hid rfl
  go_loopw [8, 10, 11, 38] (fun s _ _ j wr => ∃ k : Nat, k ≤ (lnI x i).stops.length ∧ j = .int .i64 k ∧ s = .string (ttS x i k) ∧ Below w6.heap.size w6 wr) (fun _ _ _ j _ => (lnI x i).stops.length - (intOf j).toNat)
  case atStart => exact ⟨0, Nat.zero_le _, rfl, rfl, Below.refl _ _⟩
  case round =>
    obtain ⟨k, hk, rfl, rfl, hb⟩ := hrel
    have H7 := Lib.hid (H6.out.call hb)
    have HB := Lib.hid hb
    have hz := hb.size
    by_cases hlt : k < (lnI x i).stops.length
    · have hs := HX.out.stop k hlt
      obtain ⟨s0, s1, s2⟩ := hs
      obtain ⟨t0, t1⟩ := HX.out.time k hlt
      have hss := ttS_size HX.out k hk
      have hln := HX.out.len
      obtain ⟨m, hmm⟩ : ∃ m : Nat, nth (lnI x i).stops k = m := ⟨(nth (lnI x i).stops k).toNat, by omega⟩
      have hml : m < x.net.stops.length := by omega
      have hmi : (m : Int) < x.net.stops.length := by omega
      have HS : Hid (ttS x i k ++ (⟨#[32]⟩ ++ nthS x.net.stops m ++ ⟨#[32]⟩ ++ clk (atI x i k).toNat) = ttS x i (k + 1)) := Lib.hid (by rw [← ttS_succ', hmm]; rfl)
      have s3 : (nthS x.net.stops m).size ≤ 8 := by rw [hmm] at s2; exact s2
      obtain ⟨b1, o1, rfl, hbl1, hc1⟩ := (IntsIn.at HS6.out).get hlt
      rw [hmm] at hc1
      obtain ⟨b2, o2, rfl, hbl2, hc2⟩ := H6.out.stops.get hml
      replace hc2 : w6.cell? ⟨b2, o2 + m, none⟩ = some (.string (nthS x.net.stops m)) := hc2
      obtain ⟨b3, o3, rfl, hbl3, hc3⟩ := (IntsIn.at HA6.out).get (k := k) (by rw [all_len]; exact hlt)
      rw [nth_all _ hlt] at hc3
      have HC1 := Lib.hid hc1
      have HC2 := Lib.hid hc2
      have HC3 := Lib.hid hc3
      have hbl1' : b1 < w6.heap.size := by have := H6.out.lt; omega
      have hal := all_len (atI x i) (lnI x i).stops.length
      have hik1 : (k : Int) < (lnI x i).stops.length := by omega
      have hik3 : (k : Int) < ((pickI (atI x i) yesN (lnI x i).stops.length).length : Nat) := by omega
      have HAL := Lib.hid hal
      have hss2 : (ttS x i k).size ≤ 99 := by omega
      clear hmm hc1 hc2 hc3 s0 s1 s2 hb hal
      obtain ⟨wo, rfl⟩ : ∃ wo : World, wo = wr := ⟨_, rfl⟩
      have hC : ∀ w', Below wo.heap.size wo w' → Tt3 w' w.heap.size x (some ⟨b2, o2, none⟩) ca L cl (some ⟨b, o, none⟩) ct := fun w' h => (H7.out.call h).cells
      have hD1 : ∀ w', Below wo.heap.size wo w' → w'.cell? ⟨b1, o1 + k, none⟩ = some (.int .i64 m) := fun w' h => ((bel_call HB.out h).cell (p := ⟨b1, _, none⟩) hbl1').trans HC1.out
      have hD2 : ∀ w', Below wo.heap.size wo w' → w'.cell? ⟨b2, o2 + m, none⟩ = some (.string (nthS x.net.stops m)) := fun w' h => ((bel_call HB.out h).cell (p := ⟨b2, _, none⟩) hbl2).trans HC2.out
      have hD3 : ∀ w', Below wo.heap.size wo w' → w'.cell? ⟨b3, o3 + k, none⟩ = some (.int .i64 (atI x i k)) := fun w' h => ((bel_call HB.out h).cell (p := ⟨b3, _, none⟩) hbl3).trans HC3.out
      unfold Tt3 at hC
      obtain ⟨s, hsx⟩ : ∃ s, s = ttS x i k := ⟨_, rfl⟩
      obtain ⟨nm, hnx⟩ : ∃ nm, nm = nthS x.net.stops m := ⟨_, rfl⟩
      rw [← hsx, ← hnx] at HS
      rw [← hsx] at hss2 ⊢
      rw [← hnx] at s3 hD2
      have cl5 : (clk (atI x i k).toNat).size = 5 := clk_size _
      obtain ⟨c, hcx⟩ : ∃ c, c = clk (atI x i k).toNat := ⟨_, rfl⟩
      rw [← hcx] at HS cl5
      have HCX := Lib.hid hcx
      have p1 : ¬ 9223372036854775807 < 1 + nm.size := by omega
      have p2 : ¬ 9223372036854775807 < 1 + nm.size + 1 := by omega
      have p3 : ¬ 9223372036854775807 < 1 + nm.size + 1 + c.size := by omega
      have p4 : ¬ 9223372036854775807 < s.size + (1 + nm.size + 1 + c.size) := by omega
      have HD1 := Lib.hid (hD1 wo (Below.refl _ _))
      have e1 := HD1.out
      clear hcx hsx hnx hss cl5 z3
      go_wp2_with fail
      clear e1
      go_region_held3 (fun w' => Below wo.heap.size wo w') (repeat' first | assumption | exact Nat.le_refl _ | exact Below.refl _ _ | (refine bel_drew ?_) | (refine bel_alloc ?_ _) | (refine bel_set ?_ ?_ _))
        (first
          | (go_at_call 38; refine (clockText_any _ _ t0 t1).mono ?_; rintro e w9 ⟨rfl, hb9⟩; rw [← HCX.out]; have hB9 := bel_call ‹Below wo.heap.size wo _› hb9; clear hb9))
      all_goals
        have HB9 := Lib.hid (bel_call HB.out hB9)
        clear hC hD1 hD2 hD3 hB9 p1 p2 p3 p4 s3 hss2
        go_wp2_with fail
        go_roundw
        case rel => exact ⟨k + 1, by omega, by go_num, by rw [← HS.out], HB9.out⟩
        case measure => simp [intOf]; omega
    · obtain rfl : k = (lnI x i).stops.length := by omega
      go_wp2_with fail
      go_ret2
      rw [HY.out.1, HY.out.2]
      exact ⟨rfl, H7.out.bel⟩

end Go.Proofs.Ytgakmmjbdejmdaa
