/- SameText: contracts. -/
import Derived.Test.YtdiffepokiabkaaDoorFtb
import Derived.Test.YtdiffepokiabkaaDoorFtc
namespace Go.Proofs.YtdiffepokiabkaaDoor
open Go.ChangeShapes Go.WideShapes Go.ChangeAt Go.RowKit Go.PlainAid
set_option linter.unusedVariables false
set_option linter.unusedSimpArgs false

/-- The answer of SameText. -/
def eqT (x y : TTD) : Bool := (timT x).toList == (timT y).toList
def smB (x y : TTD) : Bool := ttB x && (ttB y && eqT x y)
theorem smB_1 {x y : TTD} (h : ttB x = false) : smB x y = false := by unfold smB; rw [h]; rfl
theorem smB_2 {x y : TTD} (h : ttB y = false) : smB x y = false := by unfold smB; rw [h]; simp
theorem smB_3 {x y : TTD} (h : ttB x = true) (h' : ttB y = true) : smB x y = ((timT x).toList == (timT y).toList) := by unfold smB; rw [h, h']; rfl
theorem retBB {a a' b b' : Bool} (h1 : a = a') (h2 : b = b') : Ending.returned (.tuple #[.bool a, .bool b]) = .returned (.tuple #[.bool a', .bool b']) := by rw [h1, h2]
set_option maxRecDepth 100000 in
set_option maxHeartbeats 2000000 in
theorem specSameText_any (x y : TTD) (A L T A' L' T' : Option Addr) (ca cl ct ca' cl' ct' : Nat) (w : World) (hA : StrsIn w (Zone.below w.heap.size) A x.net.stops) (hL : LinesIn w (Zone.below w.heap.size) L x.net.lines) (hT : I3sIn w (Zone.below w.heap.size) T x.trips) (hx : FitsT x) (hA' : StrsIn w (Zone.below w.heap.size) A' y.net.stops) (hL' : LinesIn w (Zone.below w.heap.size) L' y.net.lines) (hT' : I3sIn w (Zone.below w.heap.size) T' y.trips) (hx' : FitsT y) :
    Calls Tryd.prog 27 #[.agg #[.slice A x.net.stops.length ca, .slice L x.net.lines.length cl, .slice T x.trips.length ct], .agg #[.slice A' y.net.stops.length ca', .slice L' y.net.lines.length cl', .slice T' y.trips.length ct']] w fun e w' => e = .returned (.tuple #[.bool (smB x y), .bool (ttB x && ttB y)]) ∧ Below w.heap.size w w' := by
  have hb1 : Below w.heap.size w (w.alloc (.cells #[.slice A x.net.stops.length ca, .slice L x.net.lines.length cl, .slice T x.trips.length ct] 33)) := by go_grown
  have hb2 : Below (w.alloc (.cells #[.slice A x.net.stops.length ca, .slice L x.net.lines.length cl, .slice T x.trips.length ct] 33)).heap.size (w.alloc (.cells #[.slice A x.net.stops.length ca, .slice L x.net.lines.length cl, .slice T x.trips.length ct] 33)) ((w.alloc (.cells #[.slice A x.net.stops.length ca, .slice L x.net.lines.length cl, .slice T x.trips.length ct] 33)).alloc (.cells #[.slice A' y.net.stops.length ca', .slice L' y.net.lines.length cl', .slice T' y.trips.length ct'] 33)) := by go_grown
  have H0 : Hid (TtBox w ((w.alloc (.cells #[.slice A x.net.stops.length ca, .slice L x.net.lines.length cl, .slice T x.trips.length ct] 33)).alloc (.cells #[.slice A' y.net.stops.length ca', .slice L' y.net.lines.length cl', .slice T' y.trips.length ct'] 33)) w.heap.size x A ca L cl T ct) := Lib.hid ((TtBox.box hA hL hT).call hb2)
  have K0 : Hid (TtBox (w.alloc (.cells #[.slice A x.net.stops.length ca, .slice L x.net.lines.length cl, .slice T x.trips.length ct] 33)) ((w.alloc (.cells #[.slice A x.net.stops.length ca, .slice L x.net.lines.length cl, .slice T x.trips.length ct] 33)).alloc (.cells #[.slice A' y.net.stops.length ca', .slice L' y.net.lines.length cl', .slice T' y.trips.length ct'] 33)) (w.alloc (.cells #[.slice A x.net.stops.length ca, .slice L x.net.lines.length cl, .slice T x.trips.length ct] 33)).heap.size y A' ca' L' cl' T' ct') := Lib.hid (TtBox.box (hA'.call hb1) (hL'.call hb1) (hT'.call hb1))
  have HB0 := Lib.hid (bel_call hb1 hb2)
  have hz0 : (w.alloc (.cells #[.slice A x.net.stops.length ca, .slice L x.net.lines.length cl, .slice T x.trips.length ct] 33)).heap.size = w.heap.size + 1 := by simp
  rw [hz0] at K0
  clear hA hL hT hA' hL' hT' hb1 hb2 hz0
  cases g : ttB x
  · have HS := Lib.hid (smB_1 (y := y) g)
    go_enter Tryd.func27, Tryd.ntmps27
    obtain ⟨c0, c1, c2⟩ := H0.out.cells
    obtain ⟨d0, d1, d2⟩ := K0.out.cells
    go_wp2_with fail
    generalize ((w.alloc (.cells #[.slice A x.net.stops.length ca, .slice L x.net.lines.length cl, .slice T x.trips.length ct] 33)).alloc (.cells #[.slice A' y.net.stops.length ca', .slice L' y.net.lines.length cl', .slice T' y.trips.length ct'] 33)) = w0 at *
    refine (l5Good_any x _ _ _ _ _ _ _ H0.out.stops H0.out.lines H0.out.trips hx).mono ?_
    rintro e w1 ⟨rfl, hb1⟩
    have H1 := Lib.hid (H0.out.call hb1)
    have K1 := Lib.hid (K0.out.call hb1)
    have HB1 := Lib.hid (bel_call HB0.out hb1)
    clear hb1
    clear c0 c1 c2 d0 d1 d2
    rw [g]
    go_wp2_with fail
    go_ret2
    exact ⟨retBB HS.out.symm rfl, HB1.out⟩
  cases g' : ttB y
  · have HS := Lib.hid (smB_2 (x := x) g')
    have HG := Lib.hid g
    go_enter Tryd.func27, Tryd.ntmps27
    obtain ⟨c0, c1, c2⟩ := H0.out.cells
    obtain ⟨d0, d1, d2⟩ := K0.out.cells
    go_wp2_with fail
    generalize ((w.alloc (.cells #[.slice A x.net.stops.length ca, .slice L x.net.lines.length cl, .slice T x.trips.length ct] 33)).alloc (.cells #[.slice A' y.net.stops.length ca', .slice L' y.net.lines.length cl', .slice T' y.trips.length ct'] 33)) = w0 at *
    refine (l5Good_any x _ _ _ _ _ _ _ H0.out.stops H0.out.lines H0.out.trips hx).mono ?_
    rintro e w1 ⟨rfl, hb1⟩
    have H1 := Lib.hid (H0.out.call hb1)
    have K1 := Lib.hid (K0.out.call hb1)
    have HB1 := Lib.hid (bel_call HB0.out hb1)
    clear hb1
    clear c0 c1 c2 d0 d1 d2
    rw [g]
    obtain ⟨d0, d1, d2⟩ := K1.out.cells
    go_wp2_with fail
    refine (l5Good_any y _ _ _ _ _ _ _ K1.out.stops K1.out.lines K1.out.trips hx').mono ?_
    rintro e w2 ⟨rfl, hb2⟩
    have H2 := Lib.hid (H1.out.call hb2)
    have K2 := Lib.hid (K1.out.call hb2)
    have HB2 := Lib.hid (bel_call HB1.out hb2)
    clear hb2
    clear d0 d1 d2
    rw [g']
    go_wp2_with fail
    go_ret2
    exact ⟨retBB HS.out.symm rfl, HB2.out⟩
  · have HS := Lib.hid (smB_3 g g')
    have HG := Lib.hid g
    have HG' := Lib.hid g'
    go_enter Tryd.func27, Tryd.ntmps27
    obtain ⟨c0, c1, c2⟩ := H0.out.cells
    obtain ⟨d0, d1, d2⟩ := K0.out.cells
    go_wp2_with fail
    generalize ((w.alloc (.cells #[.slice A x.net.stops.length ca, .slice L x.net.lines.length cl, .slice T x.trips.length ct] 33)).alloc (.cells #[.slice A' y.net.stops.length ca', .slice L' y.net.lines.length cl', .slice T' y.trips.length ct'] 33)) = w0 at *
    refine (l5Good_any x _ _ _ _ _ _ _ H0.out.stops H0.out.lines H0.out.trips hx).mono ?_
    rintro e w1 ⟨rfl, hb1⟩
    have H1 := Lib.hid (H0.out.call hb1)
    have K1 := Lib.hid (K0.out.call hb1)
    have HB1 := Lib.hid (bel_call HB0.out hb1)
    clear hb1
    clear c0 c1 c2 d0 d1 d2
    rw [g]
    obtain ⟨d0, d1, d2⟩ := K1.out.cells
    go_wp2_with fail
    refine (l5Good_any y _ _ _ _ _ _ _ K1.out.stops K1.out.lines K1.out.trips hx').mono ?_
    rintro e w2 ⟨rfl, hb2⟩
    have H2 := Lib.hid (H1.out.call hb2)
    have K2 := Lib.hid (K1.out.call hb2)
    have HB2 := Lib.hid (bel_call HB1.out hb2)
    clear hb2
    clear d0 d1 d2
    rw [g']
    go_wp2_with fail
    have hC : ∀ w', Below w2.heap.size w2 w' → Tt3 w' w.heap.size x A ca L cl T ct := fun w' h => (H2.out.call h).cells
    have hD : ∀ w', Below w2.heap.size w2 w' → Tt3 w' (w.heap.size + 1) y A' ca' L' cl' T' ct' := fun w' h => (K2.out.call h).cells
    unfold Tt3 at hC hD
    go_region_held3 (fun w' => Below w2.heap.size w2 w') (repeat' first | assumption | exact Nat.le_refl _ | exact Below.refl _ _ | (refine bel_drew ?_) | (refine bel_alloc ?_ _) | (refine bel_set ?_ ?_ _))
      (first
        | (go_at_call 50; (with_reducible refine (l6Timetable_any x _ _ _ _ _ _ _ (H2.out.call ‹Below w2.heap.size w2 _›).stops (H2.out.call ‹Below w2.heap.size w2 _›).lines (H2.out.call ‹Below w2.heap.size w2 _›).trips hx HG.out).mono ?_); rintro e w5 ⟨rfl, hb5⟩; have hB5 := bel_call ‹Below w2.heap.size w2 _› hb5; clear hb5)
        | (go_at_call 50; (with_reducible refine (l6Timetable_any y _ _ _ _ _ _ _ (K2.out.call ‹Below w2.heap.size w2 _›).stops (K2.out.call ‹Below w2.heap.size w2 _›).lines (K2.out.call ‹Below w2.heap.size w2 _›).trips hx' HG'.out).mono ?_); rintro e w6 ⟨rfl, hb6⟩; have hB6 := bel_call ‹Below w2.heap.size w2 _› hb6; clear hb6))
    all_goals
      first
        | have HBE := Lib.hid (bel_call HB2.out ‹Below w2.heap.size w2 w6›)
        | have HBE := Lib.hid (bel_call HB2.out ‹Below w2.heap.size w2 w5›)
      clear hC hD
      go_wp2_with fail
      go_ret2
      exact ⟨retBB HS.out.symm rfl, by repeat (first | exact HBE.out | refine bel_drew ?_)⟩
set_option maxRecDepth 100000 in
set_option maxHeartbeats 2000000 in
theorem implSameText_any (x y : TTD) (A L T A' L' T' : Option Addr) (ca cl ct ca' cl' ct' : Nat) (w : World) (hA : StrsIn w (Zone.below w.heap.size) A x.net.stops) (hL : LinesIn w (Zone.below w.heap.size) L x.net.lines) (hT : I3sIn w (Zone.below w.heap.size) T x.trips) (hx : FitsT x) (hA' : StrsIn w (Zone.below w.heap.size) A' y.net.stops) (hL' : LinesIn w (Zone.below w.heap.size) L' y.net.lines) (hT' : I3sIn w (Zone.below w.heap.size) T' y.trips) (hx' : FitsT y) (HT0 : Pow10 w) :
    Calls Tryd.prog 28 #[.agg #[.slice A x.net.stops.length ca, .slice L x.net.lines.length cl, .slice T x.trips.length ct], .agg #[.slice A' y.net.stops.length ca', .slice L' y.net.lines.length cl', .slice T' y.trips.length ct']] w fun e w' => e = .returned (.tuple #[.bool (smB x y), .bool (ttB x && ttB y)]) ∧ Below w.heap.size w w' := by
  have hb1 : Below w.heap.size w (w.alloc (.cells #[.slice A x.net.stops.length ca, .slice L x.net.lines.length cl, .slice T x.trips.length ct] 33)) := by go_grown
  have hb2 : Below (w.alloc (.cells #[.slice A x.net.stops.length ca, .slice L x.net.lines.length cl, .slice T x.trips.length ct] 33)).heap.size (w.alloc (.cells #[.slice A x.net.stops.length ca, .slice L x.net.lines.length cl, .slice T x.trips.length ct] 33)) ((w.alloc (.cells #[.slice A x.net.stops.length ca, .slice L x.net.lines.length cl, .slice T x.trips.length ct] 33)).alloc (.cells #[.slice A' y.net.stops.length ca', .slice L' y.net.lines.length cl', .slice T' y.trips.length ct'] 33)) := by go_grown
  have H0 : Hid (TtBox w ((w.alloc (.cells #[.slice A x.net.stops.length ca, .slice L x.net.lines.length cl, .slice T x.trips.length ct] 33)).alloc (.cells #[.slice A' y.net.stops.length ca', .slice L' y.net.lines.length cl', .slice T' y.trips.length ct'] 33)) w.heap.size x A ca L cl T ct) := Lib.hid ((TtBox.box hA hL hT).call hb2)
  have K0 : Hid (TtBox (w.alloc (.cells #[.slice A x.net.stops.length ca, .slice L x.net.lines.length cl, .slice T x.trips.length ct] 33)) ((w.alloc (.cells #[.slice A x.net.stops.length ca, .slice L x.net.lines.length cl, .slice T x.trips.length ct] 33)).alloc (.cells #[.slice A' y.net.stops.length ca', .slice L' y.net.lines.length cl', .slice T' y.trips.length ct'] 33)) (w.alloc (.cells #[.slice A x.net.stops.length ca, .slice L x.net.lines.length cl, .slice T x.trips.length ct] 33)).heap.size y A' ca' L' cl' T' ct') := Lib.hid (TtBox.box (hA'.call hb1) (hL'.call hb1) (hT'.call hb1))
  have HB0 := Lib.hid (bel_call hb1 hb2)
  have hz0 : (w.alloc (.cells #[.slice A x.net.stops.length ca, .slice L x.net.lines.length cl, .slice T x.trips.length ct] 33)).heap.size = w.heap.size + 1 := by simp
  rw [hz0] at K0
  have HT := Lib.hid HT0
  clear HT0
  clear hA hL hT hA' hL' hT' hb1 hb2 hz0
  cases g : ttB x
  · have HS := Lib.hid (smB_1 (y := y) g)
    go_enter Tryd.func28, Tryd.ntmps28
    obtain ⟨c0, c1, c2⟩ := H0.out.cells
    obtain ⟨d0, d1, d2⟩ := K0.out.cells
    go_wp2_with fail
    generalize ((w.alloc (.cells #[.slice A x.net.stops.length ca, .slice L x.net.lines.length cl, .slice T x.trips.length ct] 33)).alloc (.cells #[.slice A' y.net.stops.length ca', .slice L' y.net.lines.length cl', .slice T' y.trips.length ct'] 33)) = w0 at *
    refine (isValidTimetable_any x _ _ _ _ _ _ _ H0.out.stops H0.out.lines H0.out.trips hx).mono ?_
    rintro e w1 ⟨rfl, hb1⟩
    have H1 := Lib.hid (H0.out.call hb1)
    have K1 := Lib.hid (K0.out.call hb1)
    have HB1 := Lib.hid (bel_call HB0.out hb1)
    clear hb1
    clear c0 c1 c2 d0 d1 d2
    rw [g]
    go_wp2_with fail
    go_ret2
    exact ⟨retBB HS.out.symm rfl, HB1.out⟩
  cases g' : ttB y
  · have HS := Lib.hid (smB_2 (x := x) g')
    have HG := Lib.hid g
    go_enter Tryd.func28, Tryd.ntmps28
    obtain ⟨c0, c1, c2⟩ := H0.out.cells
    obtain ⟨d0, d1, d2⟩ := K0.out.cells
    go_wp2_with fail
    generalize ((w.alloc (.cells #[.slice A x.net.stops.length ca, .slice L x.net.lines.length cl, .slice T x.trips.length ct] 33)).alloc (.cells #[.slice A' y.net.stops.length ca', .slice L' y.net.lines.length cl', .slice T' y.trips.length ct'] 33)) = w0 at *
    refine (isValidTimetable_any x _ _ _ _ _ _ _ H0.out.stops H0.out.lines H0.out.trips hx).mono ?_
    rintro e w1 ⟨rfl, hb1⟩
    have H1 := Lib.hid (H0.out.call hb1)
    have K1 := Lib.hid (K0.out.call hb1)
    have HB1 := Lib.hid (bel_call HB0.out hb1)
    clear hb1
    clear c0 c1 c2 d0 d1 d2
    rw [g]
    obtain ⟨d0, d1, d2⟩ := K1.out.cells
    go_wp2_with fail
    refine (isValidTimetable_any y _ _ _ _ _ _ _ K1.out.stops K1.out.lines K1.out.trips hx').mono ?_
    rintro e w2 ⟨rfl, hb2⟩
    have H2 := Lib.hid (H1.out.call hb2)
    have K2 := Lib.hid (K1.out.call hb2)
    have HB2 := Lib.hid (bel_call HB1.out hb2)
    clear hb2
    clear d0 d1 d2
    rw [g']
    go_wp2_with fail
    go_ret2
    exact ⟨retBB HS.out.symm rfl, HB2.out⟩
  · have HS := Lib.hid (smB_3 g g')
    have HG := Lib.hid g
    have HG' := Lib.hid g'
    go_enter Tryd.func28, Tryd.ntmps28
    obtain ⟨c0, c1, c2⟩ := H0.out.cells
    obtain ⟨d0, d1, d2⟩ := K0.out.cells
    go_wp2_with fail
    generalize ((w.alloc (.cells #[.slice A x.net.stops.length ca, .slice L x.net.lines.length cl, .slice T x.trips.length ct] 33)).alloc (.cells #[.slice A' y.net.stops.length ca', .slice L' y.net.lines.length cl', .slice T' y.trips.length ct'] 33)) = w0 at *
    refine (isValidTimetable_any x _ _ _ _ _ _ _ H0.out.stops H0.out.lines H0.out.trips hx).mono ?_
    rintro e w1 ⟨rfl, hb1⟩
    have H1 := Lib.hid (H0.out.call hb1)
    have K1 := Lib.hid (K0.out.call hb1)
    have HB1 := Lib.hid (bel_call HB0.out hb1)
    clear hb1
    clear c0 c1 c2 d0 d1 d2
    rw [g]
    obtain ⟨d0, d1, d2⟩ := K1.out.cells
    go_wp2_with fail
    refine (isValidTimetable_any y _ _ _ _ _ _ _ K1.out.stops K1.out.lines K1.out.trips hx').mono ?_
    rintro e w2 ⟨rfl, hb2⟩
    have H2 := Lib.hid (H1.out.call hb2)
    have K2 := Lib.hid (K1.out.call hb2)
    have HB2 := Lib.hid (bel_call HB1.out hb2)
    clear hb2
    clear d0 d1 d2
    rw [g']
    go_wp2_with fail
    have hC : ∀ w', Below w2.heap.size w2 w' → Tt3 w' w.heap.size x A ca L cl T ct := fun w' h => (H2.out.call h).cells
    have hD : ∀ w', Below w2.heap.size w2 w' → Tt3 w' (w.heap.size + 1) y A' ca' L' cl' T' ct' := fun w' h => (K2.out.call h).cells
    unfold Tt3 at hC hD
    go_region_held3 (fun w' => Below w2.heap.size w2 w') (repeat' first | assumption | exact Nat.le_refl _ | exact Below.refl _ _ | (refine bel_drew ?_) | (refine bel_alloc ?_ _) | (refine bel_set ?_ ?_ _))
      (first
        | (go_at_call 54; (with_reducible refine (formatTimetable_any x _ _ _ _ _ _ _ (H2.out.call ‹Below w2.heap.size w2 _›).stops (H2.out.call ‹Below w2.heap.size w2 _›).lines (H2.out.call ‹Below w2.heap.size w2 _›).trips hx HG.out (HT.out.call (bel_call HB2.out ‹Below w2.heap.size w2 _›))).mono ?_); rintro e w5 ⟨rfl, hb5⟩; have hB5 := bel_call ‹Below w2.heap.size w2 _› hb5; clear hb5)
        | (go_at_call 54; (with_reducible refine (formatTimetable_any y _ _ _ _ _ _ _ (K2.out.call ‹Below w2.heap.size w2 _›).stops (K2.out.call ‹Below w2.heap.size w2 _›).lines (K2.out.call ‹Below w2.heap.size w2 _›).trips hx' HG'.out (HT.out.call (bel_call HB2.out ‹Below w2.heap.size w2 _›))).mono ?_); rintro e w6 ⟨rfl, hb6⟩; have hB6 := bel_call ‹Below w2.heap.size w2 _› hb6; clear hb6))
    all_goals
      first
        | have HBE := Lib.hid (bel_call HB2.out ‹Below w2.heap.size w2 w6›)
        | have HBE := Lib.hid (bel_call HB2.out ‹Below w2.heap.size w2 w5›)
      clear hC hD
      go_wp2_with fail
      go_ret2
      exact ⟨retBB HS.out.symm rfl, by repeat (first | exact HBE.out | refine bel_drew ?_)⟩
end Go.Proofs.YtdiffepokiabkaaDoor
