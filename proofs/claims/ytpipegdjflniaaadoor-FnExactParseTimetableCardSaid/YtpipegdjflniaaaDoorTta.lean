/- Trips: plain words, the program's checkers. -/
import Derived.Test.YtpipegdjflniaaaDoorTtb
import Derived.Test.YtpipegdjflniaaaDoorRtm
import Derived.Test.YtpipegdjflniaaaDoorTim
namespace Go.Proofs.YtpipegdjflniaaaDoor
open Go.ChangeShapes Go.WideShapes Go.ChangeAt Go.RowKit Go.PlainAid
set_option linter.unusedVariables false
set_option linter.unusedSimpArgs false

/-- When a trip ends. -/
def endI (x : TTD) (t : I3) : Int := t.c + sumI (nthL x.net.lines t.b.toNat).runs (nthL x.net.lines t.b.toNat).runs.length
def TripOk (x : TTD) (t : I3) : Prop := 1 ≤ t.a ∧ t.a ≤ 999 ∧ 0 ≤ t.b ∧ t.b < x.net.lines.length ∧ tmB t.c = true ∧ tmB (endI x t) = true
def TripAt (x : TTD) (k : Nat) : Prop := TripOk x (nth3 x.trips k) ∧ (0 < k → (nth3 x.trips (k - 1)).a < (nth3 x.trips k).a)
def TripsOk (x : TTD) : Prop := x.trips.length ≤ 12 ∧ ∀ k, k < x.trips.length → TripAt x k
instance (x : TTD) : Decidable (TripsOk x) := by unfold TripsOk TripAt TripOk; exact inferInstance
/-- Are the trips valid? -/
def tripsB (x : TTD) : Bool := decide (TripsOk x)
theorem tripsB_no {x : TTD} (h : ¬ TripsOk x) : tripsB x = false := decide_eq_false h
theorem tripsB_yes {x : TTD} (h : TripsOk x) : tripsB x = true := decide_eq_true h
theorem tripsB_ok {x : TTD} (h : tripsB x = true) : TripsOk x := of_decide_eq_true h
/-- Is it a valid timetable? -/
def ttB (x : TTD) : Bool := netB x.net && tripsB x
theorem ttB_ok {x : TTD} (h : ttB x = true) : netB x.net = true ∧ TripsOk x := by
  unfold ttB at h
  simp at h
  exact ⟨h.1, tripsB_ok h.2⟩
/-- The id of the trip before. -/
def lastI (x : TTD) (k : Nat) : Int := if k = 0 then 0 else (nth3 x.trips (k - 1)).a
theorem lastI_zero (x : TTD) : lastI x 0 = 0 := rfl
theorem lastI_succ (x : TTD) (k : Nat) : lastI x (k + 1) = (nth3 x.trips k).a := rfl
theorem tripAt_iff {x : TTD} {k : Nat} (h : ∀ j, j < k → TripAt x j) : TripAt x k ↔ (lastI x k < (nth3 x.trips k).a ∧ (nth3 x.trips k).a ≤ 999 ∧ inB (nth3 x.trips k).b 0 (x.net.lines.length - 1) = true ∧ tmB (nth3 x.trips k).c = true ∧ tmB (endI x (nth3 x.trips k)) = true) := by
  unfold TripAt TripOk lastI
  rw [inB_iff]
  by_cases e : k = 0
  · subst e
    simp only [if_true]
    constructor
    · rintro ⟨⟨h1, h2, h3, h4, h5, h6⟩, _⟩
      exact ⟨by omega, h2, ⟨h3, by omega⟩, h5, h6⟩
    · rintro ⟨h1, h2, ⟨h3, h4⟩, h5, h6⟩
      exact ⟨⟨by omega, h2, h3, by omega, h5, h6⟩, fun h => by omega⟩
  · rw [if_neg e]
    have hp := (h (k - 1) (by omega)).1.1
    constructor
    · rintro ⟨⟨h1, h2, h3, h4, h5, h6⟩, h7⟩
      exact ⟨h7 (by omega), h2, ⟨h3, by omega⟩, h5, h6⟩
    · rintro ⟨h1, h2, ⟨h3, h4⟩, h5, h6⟩
      exact ⟨⟨by omega, h2, h3, by omega, h5, h6⟩, fun _ => h1⟩
theorem netB_runs {x : NetD} (h : netB x = true) {k : Nat} (hk : k < x.lines.length) : LineHd (nthL x.lines k) ∧ Runs60 (nthL x.lines k).runs := ⟨(netB_line h hk).1, lineOk_runs (netB_line h hk)⟩

set_option maxHeartbeats 400000 in
theorem total_any (A : Option Addr) (c : Nat) (xs : List Int) (w : World) (h : IntsIn w (Zone.below w.heap.size) A xs) (ok : Runs60 xs) (hn : xs.length ≤ 1048576) :
    Calls Tryd.prog 96 #[.slice A xs.length c] w fun e w' => e = .returned (.int .i64 (sumI xs xs.length)) ∧ w = w' := by
  have HX := Lib.hid h
  have HO := Lib.hid ok
  clear h ok
  go_enter Tryd.func96, Tryd.ntmps96
  go_wp2
  go_loopw [3, 8] (fun s i wr => ∃ k : Nat, k ≤ xs.length ∧ i = .int .i64 k ∧ s = .int .i64 (sumI xs k) ∧ w = wr) (fun _ i _ => xs.length - (intOf i).toNat)
  case atStart => exact ⟨0, Nat.zero_le _, rfl, rfl, rfl⟩
  case round =>
    obtain ⟨k, hk, rfl, rfl, rfl⟩ := hrel
    have h1 := sumI_bd HO.out k hk
    by_cases hlt : k < xs.length
    · obtain ⟨b, o, rfl, hbl, hc⟩ := HX.out.at.get hlt
      have h4 := HO.out k hlt
      have hi1 : (k : Int) < (xs.length : Int) := by omega
      have HS := Lib.hid (show sumI xs (k + 1) = sumI xs k + nth xs k from rfl)
      go_wp2
      go_roundw
      case rel => exact ⟨k + 1, by omega, by go_num, by rw [HS.out], trivial⟩
      case measure => simp [intOf]; omega
    · obtain rfl : k = xs.length := by omega
      go_wp2
      go_ret
      exact ⟨rfl, rfl⟩

/-- A trip in a box. -/
def Tr3 (w : World) (g : Nat) (t : I3) : Prop := w.cell? ⟨g, 0, none⟩ = some (.int .i64 t.a) ∧ w.cell? ⟨g, 1, none⟩ = some (.int .i64 t.b) ∧ w.cell? ⟨g, 2, none⟩ = some (.int .i64 t.c)
theorem Tr3.below {w w' : World} {g B : Nat} {x : I3} (h : Tr3 w g x) (hb : Below B w w') (hg : g < B) : Tr3 w' g x :=
  ⟨(hb.cell (p := ⟨g, 0, none⟩) hg).trans h.1, (hb.cell (p := ⟨g, 1, none⟩) hg).trans h.2.1, (hb.cell (p := ⟨g, 2, none⟩) hg).trans h.2.2⟩

set_option maxRecDepth 100000 in
set_option maxHeartbeats 2000000 in
theorem endOf_any (x : TTD) (A L T : Option Addr) (ca cl ct : Nat) (t : I3) (w : World) (hL : LinesIn w (Zone.below w.heap.size) L x.net.lines) (hg : netB x.net = true) (h0 : 0 ≤ t.b) (h1 : t.b < x.net.lines.length) (c0 : 0 ≤ t.c) (c1 : t.c ≤ 1799) (hm : x.net.lines.length ≤ 1048576) :
    Calls Tryd.prog 86 #[.agg #[.slice A x.net.stops.length ca, .slice L x.net.lines.length cl, .slice T x.trips.length ct], .agg #[.int .i64 t.a, .int .i64 t.b, .int .i64 t.c]] w fun e w' => e = .returned (.int .i64 (endI x t)) ∧ Below w.heap.size w w' := by
  obtain ⟨k, hk⟩ : ∃ k : Nat, t.b = k := ⟨t.b.toNat, by omega⟩
  have hkl : k < x.net.lines.length := by omega
  have hb0 : Below w.heap.size w ((w.alloc (.cells #[.slice A x.net.stops.length ca, .slice L x.net.lines.length cl, .slice T x.trips.length ct] 33)).alloc (.cells #[.int .i64 t.a, .int .i64 t.b, .int .i64 t.c] 54)) := by go_grown
  obtain ⟨hd, hr⟩ := netB_runs hg hkl
  have HR := Lib.hid hr
  unfold LineHd at hd
  obtain ⟨b, o, rfl, hbl, S, cs, R, cr, hc0, hc1, hc2, hi1, hi2⟩ := LinesIn.line (hL.at_below hb0) hkl
  have HC2 := Lib.hid hc2
  have HI2 := Lib.hid (hi2.mono (Zone.below_le hb0.size))
  have HB0 := Lib.hid hb0
  have HT0 : Hid (Tt3 ((w.alloc (.cells #[.slice A x.net.stops.length ca, .slice (some ⟨b, o, none⟩) x.net.lines.length cl, .slice T x.trips.length ct] 33)).alloc (.cells #[.int .i64 t.a, .int .i64 t.b, .int .i64 t.c] 54)) w.heap.size x A ca (some ⟨b, o, none⟩) cl T ct) := Lib.hid ⟨by go_simp, by go_simp, by go_simp⟩
  have HTr : Hid (Tr3 ((w.alloc (.cells #[.slice A x.net.stops.length ca, .slice (some ⟨b, o, none⟩) x.net.lines.length cl, .slice T x.trips.length ct] 33)).alloc (.cells #[.int .i64 t.a, .int .i64 t.b, .int .i64 t.c] 54)) (w.heap.size + 1) t) := Lib.hid ⟨by go_simp, by go_simp, by go_simp⟩
  have HE : Hid (endI x t = t.c + sumI (nthL x.net.lines k).runs (nthL x.net.lines k).runs.length) := Lib.hid (by unfold endI; rw [hk, Int.toNat_natCast])
  have HK := Lib.hid hk
  clear hk
  have hs := sumI_bd hr _ (Nat.le_refl _)
  have hs1 := hs.1
  have hs2 := hs.2
  have hn : (nthL x.net.lines k).runs.length ≤ 1048576 := by omega
  have hik : (k : Int) < x.net.lines.length := by omega
  have hrl : (nthL x.net.lines k).runs.length ≤ 5 := by omega
  have hs3 : sumI (nthL x.net.lines k).runs (nthL x.net.lines k).runs.length ≤ 300 := by omega
  have hs4 : 0 ≤ sumI (nthL x.net.lines k).runs (nthL x.net.lines k).runs.length := by omega
  clear hL hb0 hr hc0 hc1 hc2 hi1 hi2 hs hs1 hs2 hd hg
  go_enter Tryd.func86, Tryd.ntmps86
  go_wp2_with fail
  generalize ((w.alloc (.cells #[.slice A x.net.stops.length ca, .slice (some ⟨b, o, none⟩) x.net.lines.length cl, .slice T x.trips.length ct] 33)).alloc (.cells #[.int .i64 t.a, .int .i64 t.b, .int .i64 t.c] 54)) = w0 at *
  obtain ⟨c0', c1', c2'⟩ := HT0.out
  obtain ⟨d0, d1, d2⟩ := HTr.out
  rw [HK.out] at d1
  have hc2 := HC2.out
  have hw : IntKind.i64.wrap (t.c + sumI (nthL x.net.lines k).runs (nthL x.net.lines k).runs.length) = t.c + sumI (nthL x.net.lines k).runs (nthL x.net.lines k).runs.length := IntWalk.i64_in _ (by omega)
  go_quiet ((go_at_call 96; exact quietS (total_any _ _ _ _ (HI2.out.drewN _) HR.out hn)))
  go_wp2_with fail
  go_ret
  exact ⟨retI HE.out.symm, bel_drewN HB0.out _⟩

set_option maxRecDepth 100000 in
set_option maxHeartbeats 4000000 in
theorem areTrips_any (x : TTD) (A L T : Option Addr) (ca cl ct : Nat) (w : World) (hA : StrsIn w (Zone.below w.heap.size) A x.net.stops) (hL : LinesIn w (Zone.below w.heap.size) L x.net.lines) (hT : I3sIn w (Zone.below w.heap.size) T x.trips) (hx : FitsT x) (hg : netB x.net = true) :
    Calls Tryd.prog 73 #[.agg #[.slice A x.net.stops.length ca, .slice L x.net.lines.length cl, .slice T x.trips.length ct]] w fun e w' => e = .returned (.bool (tripsB x)) ∧ Below w.heap.size w w' := by
  have H0 : Hid (TtBox w (w.alloc (.cells #[.slice A x.net.stops.length ca, .slice L x.net.lines.length cl, .slice T x.trips.length ct] 33)) w.heap.size x A ca L cl T ct) := Lib.hid (TtBox.box hA hL hT)
  have hn := hx.trips
  have hm := hx.net.lines
  clear hA hL hT
  by_cases hl : x.trips.length ≤ 12
  · go_enter Tryd.func73, Tryd.ntmps73
    go_wp2_with fail
    generalize (w.alloc (.cells #[.slice A x.net.stops.length ca, .slice L x.net.lines.length cl, .slice T x.trips.length ct] 33)) = w0 at *
    go_loopw [3, 5, 13] (fun la _ i wr => ∃ k : Nat, k ≤ x.trips.length ∧ i = .int .i64 k ∧ la = .int .i64 (lastI x k) ∧ (∀ j, j < k → TripAt x j) ∧ Below w0.heap.size w0 wr) (fun _ _ i _ => x.trips.length - (intOf i).toNat)
    case atStart => exact ⟨0, Nat.zero_le _, rfl, rfl, fun j hj => by omega, Below.refl _ _⟩
    case round =>
      obtain ⟨k, hk, rfl, rfl, ha, hb⟩ := hrel
      have HA := Lib.hid ha
      have HB := Lib.hid hb
      have H1 := Lib.hid (H0.out.call hb)
      clear ha hb
      by_cases hlt : k < x.trips.length
      · obtain ⟨b, o, rfl, hbl, hc0, hc1, hc2⟩ := I3sIn.at H1.out.trips hlt
        have hik : (k : Int) < (x.trips.length : Int) := by omega
        obtain ⟨y, hy⟩ : ∃ y, y = nth3 x.trips k := ⟨_, rfl⟩
        rw [← hy] at hc0 hc1 hc2
        have HI := Lib.hid (tripAt_iff HA.out)
        rw [← hy] at HI
        have HY := Lib.hid hy
        have HG : Hid (TripAt x k → ∀ j, j < k + 1 → TripAt x j) := Lib.hid (fun hw j hj => by
          by_cases e : j = k
          · subst e; exact hw
          · exact HA.out j (by omega))
        have HLS : Hid (lastI x (k + 1) = y.a) := Lib.hid (by rw [HY.out]; exact lastI_succ x k)
        have hzn := H1.out.lt
        have H2 : Hid (TtBox w (wr.alloc (.cells #[.int .i64 y.a, .int .i64 y.b, .int .i64 y.c] 54)) w.heap.size x A ca L cl (some ⟨b, o, none⟩) ct) := Lib.hid (H1.out.call (by go_grown))
        have HW1 : Hid (Tr3 (wr.alloc (.cells #[.int .i64 y.a, .int .i64 y.b, .int .i64 y.c] 54)) wr.heap.size y) := Lib.hid ⟨by go_simp, by go_simp, by go_simp⟩
        have hzw : wr.heap.size < (wr.alloc (.cells #[.int .i64 y.a, .int .i64 y.b, .int .i64 y.c] 54)).heap.size := by simp
        have HB1 : Hid (Below w0.heap.size w0 (wr.alloc (.cells #[.int .i64 y.a, .int .i64 y.b, .int .i64 y.c] 54))) := Lib.hid (bel_alloc HB.out _)
        obtain ⟨la, hla⟩ : ∃ l, l = lastI x k := ⟨_, rfl⟩
        rw [← hla] at HI ⊢
        have HLA := Lib.hid hla
        obtain ⟨wb, hwb⟩ : ∃ wb, wb = (wr.alloc (.cells #[.int .i64 y.a, .int .i64 y.b, .int .i64 y.c] 54)) := ⟨_, rfl⟩
        rw [← hwb] at H2 HW1 hzw HB1
        have HWB := Lib.hid hwb
        clear hy hwb hla
        obtain ⟨n0, n1, n2⟩ := H1.out.cells
        by_cases g1 : la < y.a
        · by_cases g2 : y.a ≤ 999
          · cases g3 : inB y.b 0 (x.net.lines.length - 1)
            · have H := Lib.hid (tripsB_no (x := x) (fun h => by have h := HI.out.1 (h.2 k hlt); rw [g3] at h; exact absurd h.2.2.1 (by simp)))
              go_wp2_with fail
              rw [← HWB.out]
              refine (isLine_any x.net _ _ _ _ y.b _ hm).mono ?_
              rintro e w1 ⟨rfl, hb2⟩
              have H3 := Lib.hid (H2.out.call hb2)
              have HW2 := Lib.hid (HW1.out.below hb2 hzw)
              have HB2 := Lib.hid (bel_call HB1.out hb2)
              have hz2 := hb2.size
              clear hb2 n0 n1 n2
              obtain ⟨n0, n1, n2⟩ := H3.out.cells
              obtain ⟨k0, k1, k2⟩ := HW2.out
              go_wp2_with (first | (go_at_call 71; refine (isValidTime_any _ _).mono ?_; rintro e w3 ⟨rfl, rfl⟩))
              go_ret
              exact ⟨retB H.out.symm, H3.out.bel⟩
            · cases g4 : tmB y.c
              · have H := Lib.hid (tripsB_no (x := x) (fun h => by have h := HI.out.1 (h.2 k hlt); rw [g4] at h; exact absurd h.2.2.2.1 (by simp)))
                go_wp2_with fail
                rw [← HWB.out]
                refine (isLine_any x.net _ _ _ _ y.b _ hm).mono ?_
                rintro e w1 ⟨rfl, hb2⟩
                have H3 := Lib.hid (H2.out.call hb2)
                have HW2 := Lib.hid (HW1.out.below hb2 hzw)
                have HB2 := Lib.hid (bel_call HB1.out hb2)
                have hz2 := hb2.size
                clear hb2 n0 n1 n2
                obtain ⟨n0, n1, n2⟩ := H3.out.cells
                obtain ⟨k0, k1, k2⟩ := HW2.out
                go_wp2_with (first | (go_at_call 71; refine (isValidTime_any _ _).mono ?_; rintro e w3 ⟨rfl, rfl⟩))
                go_ret
                exact ⟨retB H.out.symm, H3.out.bel⟩
              · have i3 := inB_iff.1 g3
                have i4 := tmB_iff.1 g4
                have i31 := i3.1
                have i32 := i3.2
                have i41 := i4.1
                have i42 := i4.2
                clear i3 i4
                cases g5 : tmB (endI x y)
                · have H := Lib.hid (tripsB_no (x := x) (fun h => by have h := HI.out.1 (h.2 k hlt); rw [g5] at h; exact absurd h.2.2.2.2 (by simp)))
                  go_wp2_with fail
                  rw [← HWB.out]
                  refine (isLine_any x.net _ _ _ _ y.b _ hm).mono ?_
                  rintro e w1 ⟨rfl, hb2⟩
                  have H3 := Lib.hid (H2.out.call hb2)
                  have HW2 := Lib.hid (HW1.out.below hb2 hzw)
                  have HB2 := Lib.hid (bel_call HB1.out hb2)
                  have hz2 := hb2.size
                  clear hb2 n0 n1 n2
                  obtain ⟨n0, n1, n2⟩ := H3.out.cells
                  obtain ⟨k0, k1, k2⟩ := HW2.out
                  go_wp2_with (first | (go_at_call 71; refine (isValidTime_any _ _).mono ?_; rintro e w3 ⟨rfl, rfl⟩) | fail)
                  refine (endOf_any x _ _ _ _ _ _ y _ H3.out.lines hg (by omega) (by omega) (by omega) (by omega) hm).mono ?_
                  rintro e w4 ⟨rfl, hb3⟩
                  have H4 := Lib.hid (H3.out.call hb3)
                  have HW3 := Lib.hid (HW2.out.below hb3 (by omega))
                  have HB3 := Lib.hid (bel_call HB2.out hb3)
                  clear hb3 n0 n1 n2 k0 k1 k2
                  obtain ⟨n0, n1, n2⟩ := H4.out.cells
                  obtain ⟨k0, k1, k2⟩ := HW3.out
                  go_wp2_with (first | (go_at_call 71; refine (isValidTime_any _ _).mono ?_; rintro e w3 ⟨rfl, rfl⟩))
                  go_ret
                  exact ⟨retB H.out.symm, H4.out.bel⟩
                · have HT := Lib.hid (HG.out (HI.out.2 ⟨g1, g2, g3, g4, g5⟩))
                  go_wp2_with fail
                  rw [← HWB.out]
                  refine (isLine_any x.net _ _ _ _ y.b _ hm).mono ?_
                  rintro e w1 ⟨rfl, hb2⟩
                  have H3 := Lib.hid (H2.out.call hb2)
                  have HW2 := Lib.hid (HW1.out.below hb2 hzw)
                  have HB2 := Lib.hid (bel_call HB1.out hb2)
                  have hz2 := hb2.size
                  clear hb2 n0 n1 n2
                  obtain ⟨n0, n1, n2⟩ := H3.out.cells
                  obtain ⟨k0, k1, k2⟩ := HW2.out
                  go_wp2_with (first | (go_at_call 71; refine (isValidTime_any _ _).mono ?_; rintro e w3 ⟨rfl, rfl⟩) | fail)
                  refine (endOf_any x _ _ _ _ _ _ y _ H3.out.lines hg (by omega) (by omega) (by omega) (by omega) hm).mono ?_
                  rintro e w4 ⟨rfl, hb3⟩
                  have H4 := Lib.hid (H3.out.call hb3)
                  have HW3 := Lib.hid (HW2.out.below hb3 (by omega))
                  have HB3 := Lib.hid (bel_call HB2.out hb3)
                  clear hb3 n0 n1 n2 k0 k1 k2
                  obtain ⟨n0, n1, n2⟩ := H4.out.cells
                  obtain ⟨k0, k1, k2⟩ := HW3.out
                  go_wp2_with (first | (go_at_call 71; refine (isValidTime_any _ _).mono ?_; rintro e w3 ⟨rfl, rfl⟩))
                  go_roundw
                  case rel => exact ⟨k + 1, by omega, by go_num, by rw [HLS.out], HT.out, HB3.out⟩
                  case measure => simp [intOf]; omega
          · have H := Lib.hid (tripsB_no (x := x) (fun h => g2 (HI.out.1 (h.2 k hlt)).2.1))
            go_wp2_with fail
            rw [← HWB.out]
            go_ret
            exact ⟨retB H.out.symm, H2.out.bel⟩
        · have H := Lib.hid (tripsB_no (x := x) (fun h => g1 (HI.out.1 (h.2 k hlt)).1))
          go_wp2_with fail
          rw [← HWB.out]
          go_ret
          exact ⟨retB H.out.symm, H2.out.bel⟩
      · obtain rfl : k = x.trips.length := by omega
        have H := Lib.hid (tripsB_yes (x := x) ⟨hl, HA.out⟩)
        go_wp2_with fail
        go_ret
        exact ⟨retB H.out.symm, H1.out.bel⟩
  · have H := Lib.hid (tripsB_no (x := x) (fun h => hl h.1))
    go_enter Tryd.func73, Tryd.ntmps73
    go_wp2_with fail
    go_ret
    exact ⟨retB H.out.symm, H0.out.bel⟩

set_option maxRecDepth 100000 in
theorem isValidTimetable_any (x : TTD) (A L T : Option Addr) (ca cl ct : Nat) (w : World) (hA : StrsIn w (Zone.below w.heap.size) A x.net.stops) (hL : LinesIn w (Zone.below w.heap.size) L x.net.lines) (hT : I3sIn w (Zone.below w.heap.size) T x.trips) (hx : FitsT x) :
    Calls Tryd.prog 58 #[.agg #[.slice A x.net.stops.length ca, .slice L x.net.lines.length cl, .slice T x.trips.length ct]] w fun e w' => e = .returned (.bool (ttB x)) ∧ Below w.heap.size w w' := by
  have H0 : Hid (TtBox w (w.alloc (.cells #[.slice A x.net.stops.length ca, .slice L x.net.lines.length cl, .slice T x.trips.length ct] 33)) w.heap.size x A ca L cl T ct) := Lib.hid (TtBox.box hA hL hT)
  have hf := hx.net
  clear hA hL hT
  cases g : netB x.net
  · have H := Lib.hid (show ttB x = false by unfold ttB; rw [g]; rfl)
    go_enter Tryd.func58, Tryd.ntmps58
    go_wp2_with fail
    refine (isValidNetwork_any x.net _ _ _ _ _ H0.out.stops H0.out.lines hf).mono ?_
    rintro e w1 ⟨rfl, hb1⟩
    have H1 := Lib.hid (H0.out.call hb1)
    clear hb1
    go_wp2_with fail
    go_ret
    exact ⟨retB H.out.symm, H1.out.bel⟩
  · have H := Lib.hid (show ttB x = tripsB x by unfold ttB; rw [g]; rfl)
    go_enter Tryd.func58, Tryd.ntmps58
    go_wp2_with fail
    refine (isValidNetwork_any x.net _ _ _ _ _ H0.out.stops H0.out.lines hf).mono ?_
    rintro e w1 ⟨rfl, hb1⟩
    have H1 := Lib.hid (H0.out.call hb1)
    clear hb1
    obtain ⟨n0, n1, n2⟩ := H1.out.cells
    go_wp2_with fail
    refine (areTrips_any x _ _ _ _ _ _ _ H1.out.stops H1.out.lines H1.out.trips hx g).mono ?_
    rintro e w2 ⟨rfl, hb2⟩
    have H2 := Lib.hid (H1.out.call hb2)
    clear hb2
    go_wp2_with fail
    go_ret
    exact ⟨retB H.out.symm, H2.out.bel⟩

end Go.Proofs.YtpipegdjflniaaaDoor
