/- TripNumber: contracts. -/
import Derived.Test.YtmlggpegoapmfaaTtg
import Derived.Test.YtmlggpegoapmfaaTti
namespace Go.Proofs.Ytmlggpegoapmfaa
open Go.ChangeShapes Go.WideShapes Go.ChangeAt Go.RowKit Go.PlainAid
set_option linter.unusedVariables false
set_option linter.unusedSimpArgs false

set_option maxRecDepth 100000 in
set_option maxHeartbeats 1000000 in
theorem specIsValidTimetable_any (x : TTD) (A L T : Option Addr) (ca cl ct : Nat) (w : World) (hA : StrsIn w (Zone.below w.heap.size) A x.net.stops) (hL : LinesIn w (Zone.below w.heap.size) L x.net.lines) (hT : I3sIn w (Zone.below w.heap.size) T x.trips) (hx : FitsT x) :
    Calls Try.prog 16 #[.agg #[.slice A x.net.stops.length ca, .slice L x.net.lines.length cl, .slice T x.trips.length ct]] w fun e w' => e = .returned (.bool (ttB x)) ∧ Below w.heap.size w w' := by
  have H0 : Hid (TtBox w (w.alloc (.cells #[.slice A x.net.stops.length ca, .slice L x.net.lines.length cl, .slice T x.trips.length ct] 36)) w.heap.size x A ca L cl T ct) := Lib.hid (TtBox.box hA hL hT)
  have hn := hx.trips
  clear hA hL hT
  go_enter Try.func16, Try.ntmps16
  go_wp2_with fail
  refine (l5Good_any x _ _ _ _ _ _  _ H0.out.stops H0.out.lines H0.out.trips hx).mono ?_
  rintro e w1 ⟨rfl, hb1⟩
  have H1 := Lib.hid (H0.out.call hb1)
  clear hb1
  (try clear c0 c1 c2)
  obtain ⟨c0, c1, c2⟩ := H1.out.cells
  go_wp2_with fail
  go_ret
  exact ⟨rfl, H1.out.bel⟩

set_option maxRecDepth 100000 in
set_option maxHeartbeats 1000000 in
theorem specTripNumber_any (x : TTD) (A L T : Option Addr) (ca cl ct : Nat) (id : Int) (w : World) (hA : StrsIn w (Zone.below w.heap.size) A x.net.stops) (hL : LinesIn w (Zone.below w.heap.size) L x.net.lines) (hT : I3sIn w (Zone.below w.heap.size) T x.trips) (hx : FitsT x) :
    Calls Try.prog 20 #[.agg #[.slice A x.net.stops.length ca, .slice L x.net.lines.length cl, .slice T x.trips.length ct], .int .i64 id] w fun e w' => e = .returned (.tuple #[.int .i64 (numI (ttB x) (idI x.trips id)), .bool (numB (ttB x) (idI x.trips id))]) ∧ Below w.heap.size w w' := by
  have H0 : Hid (TtBox w (w.alloc (.cells #[.slice A x.net.stops.length ca, .slice L x.net.lines.length cl, .slice T x.trips.length ct] 36)) w.heap.size x A ca L cl T ct) := Lib.hid (TtBox.box hA hL hT)
  have hn := hx.trips
  clear hA hL hT
  cases g : ttB x
  · have H := Lib.hid (num_no (ok := false) (i := idI x.trips id) (.inl rfl))
    go_enter Try.func20, Try.ntmps20
    go_wp2_with fail
    refine (l5Good_any x _ _ _ _ _ _  _ H0.out.stops H0.out.lines H0.out.trips hx).mono ?_
    rintro e w1 ⟨rfl, hb1⟩
    have H1 := Lib.hid (H0.out.call hb1)
    clear hb1
    (try clear c0 c1 c2)
    obtain ⟨c0, c1, c2⟩ := H1.out.cells
    go_wp2_with fail
    go_ret2
    exact ⟨retT H.out.1.symm H.out.2.symm, H1.out.bel⟩
  · have H := Lib.hid (show numI true (idI x.trips id) = (if idI x.trips id < 0 then 0 else idI x.trips id) ∧ numB true (idI x.trips id) = (if idI x.trips id < 0 then false else true) by
      split
      · exact num_no (.inr (by assumption))
      · exact num_yes (by omega))
    by_cases hi : idI x.trips id < 0
    all_goals
      simp only [hi, if_true, if_false] at H
      go_enter Try.func20, Try.ntmps20
      go_wp2_with fail
      refine (l5Good_any x _ _ _ _ _ _  _ H0.out.stops H0.out.lines H0.out.trips hx).mono ?_
      rintro e w1 ⟨rfl, hb1⟩
      have H1 := Lib.hid (H0.out.call hb1)
      clear hb1
      (try clear c0 c1 c2)
      obtain ⟨c0, c1, c2⟩ := H1.out.cells
      go_wp2_with fail
      refine (l5Find_any x _ _ _ _ _ _ id _ H1.out.trips hn).mono ?_
      rintro e w2 ⟨rfl, hb2⟩
      have H2 := Lib.hid (H1.out.call hb2)
      clear hb2
      (try clear c0 c1 c2)
      obtain ⟨c0, c1, c2⟩ := H2.out.cells
      go_wp2_with fail
      first
        | (refine (l5Find_any x _ _ _ _ _ _ id _ H2.out.trips hn).mono ?_
           rintro e w3 ⟨rfl, hb3⟩
           have H3 := Lib.hid (H2.out.call hb3)
           clear hb3
           go_wp2_with fail
           go_ret2
           exact ⟨retT H.out.1.symm H.out.2.symm, H3.out.bel⟩)
        | (go_ret2
           exact ⟨retT H.out.1.symm H.out.2.symm, H2.out.bel⟩)

set_option maxRecDepth 100000 in
set_option maxHeartbeats 1000000 in
theorem implTripNumber_any (x : TTD) (A L T : Option Addr) (ca cl ct : Nat) (id : Int) (w : World) (hA : StrsIn w (Zone.below w.heap.size) A x.net.stops) (hL : LinesIn w (Zone.below w.heap.size) L x.net.lines) (hT : I3sIn w (Zone.below w.heap.size) T x.trips) (hx : FitsT x) :
    Calls Try.prog 21 #[.agg #[.slice A x.net.stops.length ca, .slice L x.net.lines.length cl, .slice T x.trips.length ct], .int .i64 id] w fun e w' => e = .returned (.tuple #[.int .i64 (numI (ttB x) (idI x.trips id)), .bool (numB (ttB x) (idI x.trips id))]) ∧ Below w.heap.size w w' := by
  have H0 : Hid (TtBox w (w.alloc (.cells #[.slice A x.net.stops.length ca, .slice L x.net.lines.length cl, .slice T x.trips.length ct] 36)) w.heap.size x A ca L cl T ct) := Lib.hid (TtBox.box hA hL hT)
  have hn := hx.trips
  clear hA hL hT
  cases g : ttB x
  · have H := Lib.hid (num_no (ok := false) (i := idI x.trips id) (.inl rfl))
    go_enter Try.func21, Try.ntmps21
    go_wp2_with fail
    refine (isValidTimetable_any x _ _ _ _ _ _  _ H0.out.stops H0.out.lines H0.out.trips hx).mono ?_
    rintro e w1 ⟨rfl, hb1⟩
    have H1 := Lib.hid (H0.out.call hb1)
    clear hb1
    (try clear c0 c1 c2)
    obtain ⟨c0, c1, c2⟩ := H1.out.cells
    go_wp2_with fail
    go_ret2
    exact ⟨retT H.out.1.symm H.out.2.symm, H1.out.bel⟩
  · go_enter Try.func21, Try.ntmps21
    go_wp2_with fail
    refine (isValidTimetable_any x _ _ _ _ _ _  _ H0.out.stops H0.out.lines H0.out.trips hx).mono ?_
    rintro e w1 ⟨rfl, hb1⟩
    have H1 := Lib.hid (H0.out.call hb1)
    clear hb1
    (try clear c0 c1 c2)
    obtain ⟨c0, c1, c2⟩ := H1.out.cells
    go_wp2_with fail
    refine (tripIndex_any x _ _ _ _ _ _ id _ H1.out.trips hn).mono ?_
    rintro e w2 ⟨rfl, hb2⟩
    have H2 := Lib.hid (H1.out.call hb2)
    clear hb2
    (try clear c0 c1 c2)
    obtain ⟨c0, c1, c2⟩ := H2.out.cells
    go_wp2_with (go_at_call 66; refine (found_any _ _).mono ?_; rintro e w3 ⟨rfl, rfl⟩)
    go_ret2
    exact ⟨rfl, H2.out.bel⟩

end Go.Proofs.Ytmlggpegoapmfaa
